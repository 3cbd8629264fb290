/- Part 5 of the proof: the law JournalSurvives holds for every number of sectors and every script of crashes. -/
import Derived.Test.YtegomkljijgjjaaSurv4
set_option linter.unusedVariables false
set_option linter.unusedSimpArgs false
set_option maxRecDepth 100000
set_option maxHeartbeats 0
namespace Go.Fx
open Go Go.RowKit Go.Proofs
def m28_overflightlaw45_sane : Option Bool :=
 (m15_disk_New 1).bind fun new_1 =>
 (m38_journal_Open new_1.1).bind fun open_1 =>
 ck ((0 : Int) ≤ (113 : Int) ∧ (113 : Int) ≤ (113 : Int) ∧ (1 : Int) * 113 ≤ 281474976710656 ∧ (113 : Int) ≤ 281474976710656) <|
 (m30_journal_Append open_1.1 (List.replicate 113 (0 : UInt8))).bind fun append_1 =>
 (m30_journal_Append open_1.1 [97, 98]).bind fun append_2 =>
 (m39_journal_Sync append_2.1 new_1.1).bind fun sync_1 =>
 (m38_journal_Open sync_1.2.1).bind fun open_2 =>
 (m39_journal_Sync append_2.1 sync_1.2.1).bind fun sync_2 =>
 jn (fun (v_1 : Bool) =>
  some v_1)
 (fun k281 =>
  bif (decide (new_1.2 = 0)) then
   bif (decide (open_1.2 = 0)) then
    bif (decide ((open_1.1.records.length : Int) = 0)) then
     (m34_journal_Room open_1.1).bind fun room_1 =>
     bif (decide (room_1 = 112)) then
      bif (decide (append_1.2 = 2)) then
       bif (decide (append_2.2 = 0)) then
        bif (decide (sync_1.2.2 = 0)) then
         bif (decide (sync_1.1.synced = 1)) then
          bif (decide (open_2.2 = 0)) then
           bif (decide ((open_2.1.records.length : Int) = 1)) then
            ck ((0 : Int) ≤ 0 ∧ 0 < (open_2.1.records.length : Int)) <|
            bif (decide ((open_2.1.records.getD 0 default) = [97, 98])) then
             bif (decide (sync_2.2.2 = 450)) then
              (m32_journal_Check (⟨([] : List (List UInt8)), 0, 0⟩ : XJournal)).bind fun check_1 =>
              k281 (decide (check_1 = 1))
             else
              k281 false
            else
             k281 false
           else
            k281 false
          else
           k281 false
         else
          k281 false
        else
         k281 false
       else
        k281 false
      else
       k281 false
     else
      k281 false
    else
     k281 false
   else
    k281 false
  else
   k281 false)

theorem c28_overflightlaw45_sane {w : World} {O : List Nat} (hO : ∀ k ∈ O, k < w.heap.size) {x : Bool} (hm : m28_overflightlaw45_sane = some x) :
  Ok Try.prog 28 [] w O vB x := by
 unfold m28_overflightlaw45_sane at hm
 refine Fn_of_Wp (n := 119) (xs := [.tmp 0]) Try.func28 rfl Try.ntmps28 Try.results28 rfl ?_
 have hs := St.start hO
 refine Wp_seq ?_
 refine Wp_region ?_
 refine Rg_op rfl (op_assign (v := (Value.bool false)) rfl ?_)
 refine Rg_nil ?_
 refine Wp_seq ?_
 refine Wp_region ?_
 replace hm := bd hm; obtain ⟨new_1, hv1, hm⟩ := hm
 refine Rg_op rfl (op_call Try.call15 (c15_disk_New (sectors := 1) hs.ltw (show InK .i64 1 from by decide) hv1) rfl ?_)
 rintro v2 w3 ⟨hx4, h5⟩
 have hs6 := hs.call hx4
 have p7 := Step.ext (O := ks [] O) hx4
 clear hx4
 clear p7
 obtain ⟨v8, v9, rfl, h10, h11⟩ := h5
 obtain ⟨_, rfl, ⟨_, _, rfl, ⟨a_y12_sectors, c_y12_sectors, rfl, f_y12_sectors⟩, ⟨_, _, rfl, ⟨a_y12_pending, c_y12_pending, rfl, f_y12_pending⟩, ⟨_, _, rfl, ⟨rfl, r_y12_left⟩, rfl⟩⟩⟩⟩ := h10
 obtain ⟨rfl, r_y13⟩ := h11
 refine Rg_op rfl (op_move (v := (Value.tuple [(Value.agg [(Value.slice a_y12_sectors new_1.1.sectors.length c_y12_sectors), (Value.slice a_y12_pending new_1.1.pending.length c_y12_pending), (Value.int .i64 new_1.1.left), (Value.bool new_1.1.stopped)].toArray), (Value.int .i64 new_1.2)].toArray)) rfl ?_)
 refine Rg_op rfl (op_extract (v := (Value.agg [(Value.slice a_y12_sectors new_1.1.sectors.length c_y12_sectors), (Value.slice a_y12_pending new_1.1.pending.length c_y12_pending), (Value.int .i64 new_1.1.left), (Value.bool new_1.1.stopped)].toArray)) rfl rfl ?_)
 refine Rg_op rfl (op_extract (v := (Value.int .i64 new_1.2)) rfl rfl ?_)
 refine Rg_op rfl (op_alloc ty25 hs6 ?_)
 intro b14 w15 _ p16 hs17
 replace f_y12_sectors := f_y12_sectors.step p16; replace f_y12_pending := f_y12_pending.step p16; clear p16 hs6
 refine Rg_op_ (op_store (cs := [(Value.slice none 0 0), (Value.slice none 0 0), (Value.int .i64 0), (Value.bool false)]) (vs := [(Value.slice a_y12_sectors new_1.1.sectors.length c_y12_sectors), (Value.slice a_y12_pending new_1.1.pending.length c_y12_pending), (Value.int .i64 new_1.1.left), (Value.bool new_1.1.stopped)]) (cs' := [(Value.slice a_y12_sectors new_1.1.sectors.length c_y12_sectors), (Value.slice a_y12_pending new_1.1.pending.length c_y12_pending), (Value.int .i64 new_1.1.left), (Value.bool new_1.1.stopped)]) (bs' := [(some b14, Obj.cells [(Value.slice a_y12_sectors new_1.1.sectors.length c_y12_sectors), (Value.slice a_y12_pending new_1.1.pending.length c_y12_pending), (Value.int .i64 new_1.1.left), (Value.bool new_1.1.stopped)].toArray 25)]) (i := 0) ty25 hs17 rfl rfl rfl rfl rfl (le_lit rfl) rfl rfl rfl ?_)
 intro w19 p20 hs21
 replace f_y12_sectors := f_y12_sectors.step p20; replace f_y12_pending := f_y12_pending.step p20; clear p20 hs17
 refine Rg_op rfl (op_assign (v := (Value.int .i64 new_1.2)) rfl ?_)
 refine Rg_nil ?_
 refine Wp_seq ?_
 refine Wp_region ?_
 refine Rg_op rfl (op_loadA (cs := [(Value.slice a_y12_sectors new_1.1.sectors.length c_y12_sectors), (Value.slice a_y12_pending new_1.1.pending.length c_y12_pending), (Value.int .i64 new_1.1.left), (Value.bool new_1.1.stopped)]) (vs := [(Value.slice a_y12_sectors new_1.1.sectors.length c_y12_sectors), (Value.slice a_y12_pending new_1.1.pending.length c_y12_pending), (Value.int .i64 new_1.1.left), (Value.bool new_1.1.stopped)]) (i := 0) ty25 hs21 rfl rfl rfl rfl ?_)
 replace hm := bd hm; obtain ⟨open_1, hv22, hm⟩ := hm
 refine Rg_op rfl (op_call Try.call38 (c38_journal_Open (d := new_1.1) hs21.ltw f_y12_sectors f_y12_pending r_y12_left hv22) rfl ?_)
 rintro v23 w24 ⟨hx25, h26⟩
 have hs27 := hs21.call hx25
 have p28 := Step.ext (O := ks [(some b14, Obj.cells [(Value.slice a_y12_sectors new_1.1.sectors.length c_y12_sectors), (Value.slice a_y12_pending new_1.1.pending.length c_y12_pending), (Value.int .i64 new_1.1.left), (Value.bool new_1.1.stopped)].toArray 25)] O) hx25
 clear hx25
 replace f_y12_sectors := f_y12_sectors.step p28; replace f_y12_pending := f_y12_pending.step p28; clear p28 hs21
 obtain ⟨v29, v30, rfl, h31, h32⟩ := h26
 obtain ⟨_, rfl, ⟨_, _, rfl, ⟨a_y33_records, c_y33_records, rfl, f_y33_records⟩, ⟨_, _, rfl, ⟨rfl, r_y33_many⟩, ⟨rfl, r_y33_synced⟩⟩⟩⟩ := h31
 obtain ⟨rfl, r_y34⟩ := h32
 refine Rg_op rfl (op_move (v := (Value.tuple [(Value.agg [(Value.slice a_y33_records open_1.1.records.length c_y33_records), (Value.int .i64 open_1.1.many), (Value.int .i64 open_1.1.synced)].toArray), (Value.int .i64 open_1.2)].toArray)) rfl ?_)
 refine Rg_op rfl (op_extract (v := (Value.agg [(Value.slice a_y33_records open_1.1.records.length c_y33_records), (Value.int .i64 open_1.1.many), (Value.int .i64 open_1.1.synced)].toArray)) rfl rfl ?_)
 refine Rg_op rfl (op_extract (v := (Value.int .i64 open_1.2)) rfl rfl ?_)
 refine Rg_op rfl (op_alloc ty52 hs27 ?_)
 intro b35 w36 _ p37 hs38
 replace f_y12_sectors := f_y12_sectors.step p37; replace f_y12_pending := f_y12_pending.step p37; replace f_y33_records := f_y33_records.step p37; clear p37 hs27
 refine Rg_op_ (op_store (cs := [(Value.slice none 0 0), (Value.int .i64 0), (Value.int .i64 0)]) (vs := [(Value.slice a_y33_records open_1.1.records.length c_y33_records), (Value.int .i64 open_1.1.many), (Value.int .i64 open_1.1.synced)]) (cs' := [(Value.slice a_y33_records open_1.1.records.length c_y33_records), (Value.int .i64 open_1.1.many), (Value.int .i64 open_1.1.synced)]) (bs' := [(some b35, Obj.cells [(Value.slice a_y33_records open_1.1.records.length c_y33_records), (Value.int .i64 open_1.1.many), (Value.int .i64 open_1.1.synced)].toArray 52), (some b14, Obj.cells [(Value.slice a_y12_sectors new_1.1.sectors.length c_y12_sectors), (Value.slice a_y12_pending new_1.1.pending.length c_y12_pending), (Value.int .i64 new_1.1.left), (Value.bool new_1.1.stopped)].toArray 25)]) (i := 0) ty52 hs38 rfl rfl rfl rfl rfl (le_lit rfl) rfl rfl rfl ?_)
 intro w40 p41 hs42
 replace f_y12_sectors := f_y12_sectors.step p41; replace f_y12_pending := f_y12_pending.step p41; replace f_y33_records := f_y33_records.step p41; clear p41 hs38
 refine Rg_op rfl (op_assign (v := (Value.int .i64 open_1.2)) rfl ?_)
 refine Rg_nil ?_
 refine Wp_seq ?_
 refine Wp_drawR (g0 := []) (m := 7) (fl := [5]) (TS_inv hs42) rfl (.inl rfl) rfl (by decide +kernel) ?_  -- 3
 refine Dw_eq (Value.agg [(Value.slice a_y33_records open_1.1.records.length c_y33_records), (Value.int .i64 open_1.1.many), (Value.int .i64 open_1.1.synced)].toArray) (fun ρ43 w44 g hle hi ht => ?_) ?_
 ·
  obtain ⟨-, hst, -⟩ := hle
  have hsn := (Step.nx hi).1
  refine StepOp_plain (op_loadA (cs := [(Value.slice a_y33_records open_1.1.records.length c_y33_records), (Value.int .i64 open_1.1.many), (Value.int .i64 open_1.1.synced)]) (vs := [(Value.slice a_y33_records open_1.1.records.length c_y33_records), (Value.int .i64 open_1.1.many), (Value.int .i64 open_1.1.synced)]) (i := 0) ty52 hsn (ht 3 rfl) rfl rfl rfl ?_)
  exact Goes.same hi rfl
 replace hm := ck_some hm; obtain ⟨hc49, hm⟩ := hm
 refine Dw_op (VD O [(some b35, Obj.cells [(Value.slice a_y33_records open_1.1.records.length c_y33_records), (Value.int .i64 open_1.1.many), (Value.int .i64 open_1.1.synced)].toArray 52), (some b14, Obj.cells [(Value.slice a_y12_sectors new_1.1.sectors.length c_y12_sectors), (Value.slice a_y12_pending new_1.1.pending.length c_y12_pending), (Value.int .i64 new_1.1.left), (Value.bool new_1.1.stopped)].toArray 25)] (vC (rSl rU8)) (List.replicate 113 (0 : UInt8))) (VD.stab _ _) (fun ρ46 w47 g hle hi ht => ?_) ?_
 ·
  obtain ⟨-, hst, -⟩ := hle
  replace f_y12_sectors := f_y12_sectors.step hst; replace f_y12_pending := f_y12_pending.step hst; replace f_y33_records := f_y33_records.step hst
  refine StepOp_plain (op_makeSliceI (q := rU8) (v := (Value.int .u8 0)) (x0 := (0 : UInt8)) ty41 ty5 hi rfl rfl hc49 rfl (fun _ _ => (mk_u8 (show InK .u8 0 from by decide))) ?_)
  intro b50 w51 hx55 p52 hs53 f54
  replace f_y12_sectors := f_y12_sectors.step p52; replace f_y12_pending := f_y12_pending.step p52; replace f_y33_records := f_y33_records.step p52
  obtain ⟨hs57, p58, f59⟩ := Gs.publish (i := 0) hs53 rfl f54
  exact Goes.pub hi hs57 (Step.trans p52 p58) hx55 (show Vr.vd (vC (rSl rU8)) _ _ _ _ from mkC (mk_sl f59))
 replace hm := bd hm; obtain ⟨append_1, hv66, hm⟩ := hm
 refine Dw_op (VD O [(some b35, Obj.cells [(Value.slice a_y33_records open_1.1.records.length c_y33_records), (Value.int .i64 open_1.1.many), (Value.int .i64 open_1.1.synced)].toArray 52), (some b14, Obj.cells [(Value.slice a_y12_sectors new_1.1.sectors.length c_y12_sectors), (Value.slice a_y12_pending new_1.1.pending.length c_y12_pending), (Value.int .i64 new_1.1.left), (Value.bool new_1.1.stopped)].toArray 25)] (vT2 (vA rXJournal) (vI .i64)) append_1) (VD.stab _ _) (fun ρ60 w61 g hle hi ht => ?_) ?_
 ·
  obtain ⟨-, hst, -⟩ := hle
  replace f_y33_records := f_y33_records.step hst
  have h63 : Vr.vd (vC (rSl rU8)) _ _ _ _ := ht 28 rfl
  obtain ⟨a_y65, c_y65, q64, f_y65⟩ := un_sl h63
  refine StepOp_plain (op_call Try.call30 (c30_journal_Append (O := ks (ents g ++ [(some b35, Obj.cells [(Value.slice a_y33_records open_1.1.records.length c_y33_records), (Value.int .i64 open_1.1.many), (Value.int .i64 open_1.1.synced)].toArray 52), (some b14, Obj.cells [(Value.slice a_y12_sectors new_1.1.sectors.length c_y12_sectors), (Value.slice a_y12_pending new_1.1.pending.length c_y12_pending), (Value.int .i64 new_1.1.left), (Value.bool new_1.1.stopped)].toArray 25)]) O) (l := open_1.1) (b := (List.replicate 113 (0 : UInt8))) hi.ltw f_y33_records r_y33_many r_y33_synced f_y65 hv66) (by simp only [List.map, Array.toList, (show ev _ (.tmp 27) = _ from (ht 27 rfl)), (show ev _ (.tmp 28) = _ from q64)] <;> rfl) ?_)
  rintro v67 w68 ⟨hx69, h70⟩
  exact Goes.call hi hx69 h70
 refine Dw_op (VD O [(some b35, Obj.cells [(Value.slice a_y33_records open_1.1.records.length c_y33_records), (Value.int .i64 open_1.1.many), (Value.int .i64 open_1.1.synced)].toArray 52), (some b14, Obj.cells [(Value.slice a_y12_sectors new_1.1.sectors.length c_y12_sectors), (Value.slice a_y12_pending new_1.1.pending.length c_y12_pending), (Value.int .i64 new_1.1.left), (Value.bool new_1.1.stopped)].toArray 25)] (vT2 (vA rXJournal) (vI .i64)) append_1) (VD.stab _ _) (fun ρ72 w73 g hle hi ht => ?_) ?_
 ·
  obtain ⟨-, hst, -⟩ := hle
  have h : Vr.vd (vT2 (vA rXJournal) (vI .i64)) _ _ _ _ := ht 29 rfl
  refine StepOp_plain (op_move rfl (Goes.same hi h))
 refine Dw_op (VD O [(some b35, Obj.cells [(Value.slice a_y33_records open_1.1.records.length c_y33_records), (Value.int .i64 open_1.1.many), (Value.int .i64 open_1.1.synced)].toArray 52), (some b14, Obj.cells [(Value.slice a_y12_sectors new_1.1.sectors.length c_y12_sectors), (Value.slice a_y12_pending new_1.1.pending.length c_y12_pending), (Value.int .i64 new_1.1.left), (Value.bool new_1.1.stopped)].toArray 25)] (vA rXJournal) append_1.1) (VD.stab _ _) (fun ρ83 w84 g hle hi ht => ?_) ?_
 ·
  obtain ⟨-, hst, -⟩ := hle
  have h86 : Vr.vd (vT2 (vA rXJournal) (vI .i64)) _ _ _ _ := ht 26 rfl
  obtain ⟨v88, v89, q87, h90, h91⟩ := h86
  obtain ⟨_, rfl, ⟨_, _, rfl, ⟨a_y92_records, c_y92_records, rfl, f_y92_records⟩, ⟨_, _, rfl, ⟨rfl, r_y92_many⟩, ⟨rfl, r_y92_synced⟩⟩⟩⟩ := h90
  obtain ⟨rfl, r_y93⟩ := h91
  refine StepOp_plain (op_extract (v := (Value.agg [(Value.slice a_y92_records append_1.1.records.length c_y92_records), (Value.int .i64 append_1.1.many), (Value.int .i64 append_1.1.synced)].toArray)) q87 rfl ?_)
  exact Goes.same hi (show Vr.vd (vA rXJournal) _ _ _ _ from (mkA (mkVia (mk_pair (mk_sl f_y92_records) (mk_pair (mk_int r_y92_many) (mk_int r_y92_synced))))))
 refine Dw_op (VD O [(some b35, Obj.cells [(Value.slice a_y33_records open_1.1.records.length c_y33_records), (Value.int .i64 open_1.1.many), (Value.int .i64 open_1.1.synced)].toArray 52), (some b14, Obj.cells [(Value.slice a_y12_sectors new_1.1.sectors.length c_y12_sectors), (Value.slice a_y12_pending new_1.1.pending.length c_y12_pending), (Value.int .i64 new_1.1.left), (Value.bool new_1.1.stopped)].toArray 25)] (vI .i64) append_1.2) (VD.stab _ _) (fun ρ94 w95 g hle hi ht => ?_) ?_
 ·
  obtain ⟨-, hst, -⟩ := hle
  have h97 : Vr.vd (vT2 (vA rXJournal) (vI .i64)) _ _ _ _ := ht 26 rfl
  obtain ⟨v99, v100, q98, h101, h102⟩ := h97
  obtain ⟨_, rfl, ⟨_, _, rfl, ⟨a_y103_records, c_y103_records, rfl, f_y103_records⟩, ⟨_, _, rfl, ⟨rfl, r_y103_many⟩, ⟨rfl, r_y103_synced⟩⟩⟩⟩ := h101
  obtain ⟨rfl, r_y104⟩ := h102
  refine StepOp_plain (op_extract (v := (Value.int .i64 append_1.2)) q98 rfl ?_)
  exact Goes.same hi (show Vr.vd (vI .i64) _ _ _ _ from ⟨rfl, r_y104⟩)
 refine Dw_op (VN 5 (Obj.cells [(Value.slice none 0 0), (Value.int .i64 0), (Value.int .i64 0)].toArray 52)) (VN.stab _ _) (fun ρ105 w106 g hle hi ht => ?_) ?_
 ·
  obtain ⟨-, hst, -⟩ := hle
  refine StepOp_plain (op_alloc ty52 hi ?_)
  intro b108 w109 hx112 p110 hs111; exact Goes.new hi p110 hs111 hx112
 refine Dw_nil fun w117 g118 hl119 hi120 => ?_
 obtain ⟨-, hst121, -⟩ := hl119
 rintro _ ⟨b124, rfl, h125⟩
 rintro v127 h128
 replace h128 : Vr.vd (vI .i64) _ _ _ _ := h128
 obtain ⟨rfl, r_y129⟩ := h128
 rintro v130 h131
 replace h131 : Vr.vd (vA rXJournal) _ _ _ _ := h131
 obtain ⟨_, rfl, ⟨_, _, rfl, ⟨a_y132_records, c_y132_records, rfl, f_y132_records⟩, ⟨_, _, rfl, ⟨rfl, r_y132_many⟩, ⟨rfl, r_y132_synced⟩⟩⟩⟩ := h131
 rintro v133 h134
 replace h134 : Vr.vd (vT2 (vA rXJournal) (vI .i64)) _ _ _ _ := h134
 obtain ⟨v135, v136, rfl, h137, h138⟩ := h134
 obtain ⟨_, rfl, ⟨_, _, rfl, ⟨a_y139_records, c_y139_records, rfl, f_y139_records⟩, ⟨_, _, rfl, ⟨rfl, r_y139_many⟩, ⟨rfl, r_y139_synced⟩⟩⟩⟩ := h137
 obtain ⟨rfl, r_y140⟩ := h138
 rintro v141 h142
 replace h142 : Vr.vd (vT2 (vA rXJournal) (vI .i64)) _ _ _ _ := h142
 obtain ⟨v143, v144, rfl, h145, h146⟩ := h142
 obtain ⟨_, rfl, ⟨_, _, rfl, ⟨a_y147_records, c_y147_records, rfl, f_y147_records⟩, ⟨_, _, rfl, ⟨rfl, r_y147_many⟩, ⟨rfl, r_y147_synced⟩⟩⟩⟩ := h145
 obtain ⟨rfl, r_y148⟩ := h146
 rintro v149 h150
 replace h150 : Vr.vd (vC (rSl rU8)) _ _ _ _ := h150
 obtain ⟨a_y151, c_y151, rfl, f_y151⟩ := un_sl h150
 rintro _ rfl
 obtain ⟨hs123, p122⟩ := Step.nx1 hi120 h125
 have p152 : Step (ks [(some b35, Obj.cells [(Value.slice a_y33_records open_1.1.records.length c_y33_records), (Value.int .i64 open_1.1.many), (Value.int .i64 open_1.1.synced)].toArray 52), (some b14, Obj.cells [(Value.slice a_y12_sectors new_1.1.sectors.length c_y12_sectors), (Value.slice a_y12_pending new_1.1.pending.length c_y12_pending), (Value.int .i64 new_1.1.left), (Value.bool new_1.1.stopped)].toArray 25)] O) w40 (ks [(some b124, Obj.cells [(Value.slice none 0 0), (Value.int .i64 0), (Value.int .i64 0)].toArray 52), (some b35, Obj.cells [(Value.slice a_y33_records open_1.1.records.length c_y33_records), (Value.int .i64 open_1.1.many), (Value.int .i64 open_1.1.synced)].toArray 52), (some b14, Obj.cells [(Value.slice a_y12_sectors new_1.1.sectors.length c_y12_sectors), (Value.slice a_y12_pending new_1.1.pending.length c_y12_pending), (Value.int .i64 new_1.1.left), (Value.bool new_1.1.stopped)].toArray 25)] O) w117 := hst121.trans p122
 replace f_y132_records := f_y132_records.step p122; replace f_y139_records := f_y139_records.step p122; replace f_y147_records := f_y147_records.step p122; replace f_y151 := f_y151.step p122; replace f_y12_sectors := f_y12_sectors.step p152; replace f_y12_pending := f_y12_pending.step p152; replace f_y33_records := f_y33_records.step p152; clear p152 hs42
 refine Rg_op_ (op_store (cs := [(Value.slice none 0 0), (Value.int .i64 0), (Value.int .i64 0)]) (vs := [(Value.slice a_y132_records append_1.1.records.length c_y132_records), (Value.int .i64 append_1.1.many), (Value.int .i64 append_1.1.synced)]) (cs' := [(Value.slice a_y132_records append_1.1.records.length c_y132_records), (Value.int .i64 append_1.1.many), (Value.int .i64 append_1.1.synced)]) (bs' := [(some b124, Obj.cells [(Value.slice a_y132_records append_1.1.records.length c_y132_records), (Value.int .i64 append_1.1.many), (Value.int .i64 append_1.1.synced)].toArray 52), (some b35, Obj.cells [(Value.slice a_y33_records open_1.1.records.length c_y33_records), (Value.int .i64 open_1.1.many), (Value.int .i64 open_1.1.synced)].toArray 52), (some b14, Obj.cells [(Value.slice a_y12_sectors new_1.1.sectors.length c_y12_sectors), (Value.slice a_y12_pending new_1.1.pending.length c_y12_pending), (Value.int .i64 new_1.1.left), (Value.bool new_1.1.stopped)].toArray 25)]) (i := 0) ty52 hs123 rfl rfl rfl rfl rfl (le_lit rfl) rfl rfl rfl ?_)
 intro w153 p154 hs155
 replace f_y12_sectors := f_y12_sectors.step p154; replace f_y12_pending := f_y12_pending.step p154; replace f_y33_records := f_y33_records.step p154; replace f_y132_records := f_y132_records.step p154; replace f_y139_records := f_y139_records.step p154; replace f_y147_records := f_y147_records.step p154; replace f_y151 := f_y151.step p154; clear p154 hs123
 refine Rg_op rfl (op_assign (v := (Value.int .i64 append_1.2)) rfl ?_)
 refine Rg_nil ?_
 refine Wp_seq ?_
 obtain ⟨hs156, p157⟩ := hs155.sub (bs' := [(some b35, Obj.cells [(Value.slice a_y33_records open_1.1.records.length c_y33_records), (Value.int .i64 open_1.1.many), (Value.int .i64 open_1.1.synced)].toArray 52), (some b14, Obj.cells [(Value.slice a_y12_sectors new_1.1.sectors.length c_y12_sectors), (Value.slice a_y12_pending new_1.1.pending.length c_y12_pending), (Value.int .i64 new_1.1.left), (Value.bool new_1.1.stopped)].toArray 25)]) (.cons _ (.cons_cons _ (.cons_cons _ List.Sublist.slnil)))
 clear f_y132_records f_y139_records f_y147_records f_y151
 replace f_y12_sectors := f_y12_sectors.step p157; replace f_y12_pending := f_y12_pending.step p157; replace f_y33_records := f_y33_records.step p157; clear p157 hs155
 refine Wp_region ?_
 refine Rg_op rfl (op_loadA (cs := [(Value.slice a_y33_records open_1.1.records.length c_y33_records), (Value.int .i64 open_1.1.many), (Value.int .i64 open_1.1.synced)]) (vs := [(Value.slice a_y33_records open_1.1.records.length c_y33_records), (Value.int .i64 open_1.1.many), (Value.int .i64 open_1.1.synced)]) (i := 0) ty52 hs156 rfl rfl rfl rfl ?_)
 refine Rg_op rfl (op_buildSlice (cs := [(Value.int .u8 97), (Value.int .u8 98)]) (parts := [(0, .const (.int .u8 97)), (1, .const (.int .u8 98))]) ty41 ty5 hs156 (by decide) rfl ?_)
 intro b158 w159 hx162 p160 hs161
 replace f_y12_sectors := f_y12_sectors.step p160; replace f_y12_pending := f_y12_pending.step p160; replace f_y33_records := f_y33_records.step p160; clear p160 hs156
 refine Rg_op rfl (op_convB (i := 0) (m := 2) (cs := [(Value.int .u8 97), (Value.int .u8 98)]) Try.underlying41 Try.underlying5 hs161 rfl rfl rfl ?_)
 intro w164 p165 hs166
 replace f_y12_sectors := f_y12_sectors.step p165; replace f_y12_pending := f_y12_pending.step p165; replace f_y33_records := f_y33_records.step p165; clear p165 hs161
 obtain ⟨hs168, p169, f167⟩ := St.publish (i := 0) (o := 0) (c := 2) (xs := [97, 98]) hs166 rfl (show Els rU8 _ _ [(Value.int .u8 97), (Value.int .u8 98)] [97, 98] from ⟨_, _, rfl, (mk_u8 (show InK .u8 97 from by decide)), ⟨_, _, rfl, (mk_u8 (show InK .u8 98 from by decide)), Els.nil⟩⟩) (le_lit rfl) (le_lit rfl) (le_lit rfl)
 replace f_y12_sectors := f_y12_sectors.step p169; replace f_y12_pending := f_y12_pending.step p169; replace f_y33_records := f_y33_records.step p169; clear p169 hs166
 replace hm := bd hm; obtain ⟨append_2, hv170, hm⟩ := hm
 refine Rg_op rfl (op_call Try.call30 (c30_journal_Append (l := open_1.1) (b := [97, 98]) hs168.ltw f_y33_records r_y33_many r_y33_synced f167 hv170) rfl ?_)
 rintro v171 w172 ⟨hx173, h174⟩
 have hs175 := hs168.call hx173
 have p176 := Step.ext (O := ks [(some b35, Obj.cells [(Value.slice a_y33_records open_1.1.records.length c_y33_records), (Value.int .i64 open_1.1.many), (Value.int .i64 open_1.1.synced)].toArray 52), (some b14, Obj.cells [(Value.slice a_y12_sectors new_1.1.sectors.length c_y12_sectors), (Value.slice a_y12_pending new_1.1.pending.length c_y12_pending), (Value.int .i64 new_1.1.left), (Value.bool new_1.1.stopped)].toArray 25)] O) hx173
 clear hx173
 replace f_y12_sectors := f_y12_sectors.step p176; replace f_y12_pending := f_y12_pending.step p176; replace f_y33_records := f_y33_records.step p176; replace f167 := f167.step p176; clear p176 hs168
 obtain ⟨v177, v178, rfl, h179, h180⟩ := h174
 obtain ⟨_, rfl, ⟨_, _, rfl, ⟨a_y181_records, c_y181_records, rfl, f_y181_records⟩, ⟨_, _, rfl, ⟨rfl, r_y181_many⟩, ⟨rfl, r_y181_synced⟩⟩⟩⟩ := h179
 obtain ⟨rfl, r_y182⟩ := h180
 refine Rg_op rfl (op_move (v := (Value.tuple [(Value.agg [(Value.slice a_y181_records append_2.1.records.length c_y181_records), (Value.int .i64 append_2.1.many), (Value.int .i64 append_2.1.synced)].toArray), (Value.int .i64 append_2.2)].toArray)) rfl ?_)
 refine Rg_op rfl (op_extract (v := (Value.agg [(Value.slice a_y181_records append_2.1.records.length c_y181_records), (Value.int .i64 append_2.1.many), (Value.int .i64 append_2.1.synced)].toArray)) rfl rfl ?_)
 refine Rg_op rfl (op_extract (v := (Value.int .i64 append_2.2)) rfl rfl ?_)
 refine Rg_op rfl (op_alloc ty52 hs175 ?_)
 intro b183 w184 _ p185 hs186
 replace f_y12_sectors := f_y12_sectors.step p185; replace f_y12_pending := f_y12_pending.step p185; replace f_y33_records := f_y33_records.step p185; replace f167 := f167.step p185; replace f_y181_records := f_y181_records.step p185; clear p185 hs175
 refine Rg_op_ (op_store (cs := [(Value.slice none 0 0), (Value.int .i64 0), (Value.int .i64 0)]) (vs := [(Value.slice a_y181_records append_2.1.records.length c_y181_records), (Value.int .i64 append_2.1.many), (Value.int .i64 append_2.1.synced)]) (cs' := [(Value.slice a_y181_records append_2.1.records.length c_y181_records), (Value.int .i64 append_2.1.many), (Value.int .i64 append_2.1.synced)]) (bs' := [(some b183, Obj.cells [(Value.slice a_y181_records append_2.1.records.length c_y181_records), (Value.int .i64 append_2.1.many), (Value.int .i64 append_2.1.synced)].toArray 52), (some b35, Obj.cells [(Value.slice a_y33_records open_1.1.records.length c_y33_records), (Value.int .i64 open_1.1.many), (Value.int .i64 open_1.1.synced)].toArray 52), (some b14, Obj.cells [(Value.slice a_y12_sectors new_1.1.sectors.length c_y12_sectors), (Value.slice a_y12_pending new_1.1.pending.length c_y12_pending), (Value.int .i64 new_1.1.left), (Value.bool new_1.1.stopped)].toArray 25)]) (i := 0) ty52 hs186 rfl rfl rfl rfl rfl (le_lit rfl) rfl rfl rfl ?_)
 intro w188 p189 hs190
 replace f_y12_sectors := f_y12_sectors.step p189; replace f_y12_pending := f_y12_pending.step p189; replace f_y33_records := f_y33_records.step p189; replace f167 := f167.step p189; replace f_y181_records := f_y181_records.step p189; clear p189 hs186
 refine Rg_op rfl (op_assign (v := (Value.int .i64 append_2.2)) rfl ?_)
 refine Rg_nil ?_
 refine Wp_seq ?_
 clear f167
 refine Wp_reset [] [(1, (Value.pointer (some ⟨b14, 0, none⟩))), (2, (Value.int .i64 new_1.2)), (3, (Value.pointer (some ⟨b35, 0, none⟩))), (4, (Value.int .i64 open_1.2)), (6, (Value.int .i64 append_1.2)), (7, (Value.pointer (some ⟨b183, 0, none⟩))), (8, (Value.int .i64 append_2.2))] rfl ⟨rfl, rfl, rfl, rfl, rfl, rfl, rfl, trivial⟩ fun ξ191 => ?_
 refine Wp_region ?_
 refine Rg_op rfl (op_loadA (cs := [(Value.slice a_y181_records append_2.1.records.length c_y181_records), (Value.int .i64 append_2.1.many), (Value.int .i64 append_2.1.synced)]) (vs := [(Value.slice a_y181_records append_2.1.records.length c_y181_records), (Value.int .i64 append_2.1.many), (Value.int .i64 append_2.1.synced)]) (i := 0) ty52 hs190 rfl rfl rfl rfl ?_)
 refine Rg_op rfl (op_loadA (cs := [(Value.slice a_y12_sectors new_1.1.sectors.length c_y12_sectors), (Value.slice a_y12_pending new_1.1.pending.length c_y12_pending), (Value.int .i64 new_1.1.left), (Value.bool new_1.1.stopped)]) (vs := [(Value.slice a_y12_sectors new_1.1.sectors.length c_y12_sectors), (Value.slice a_y12_pending new_1.1.pending.length c_y12_pending), (Value.int .i64 new_1.1.left), (Value.bool new_1.1.stopped)]) (i := 2) ty25 hs190 rfl rfl rfl rfl ?_)
 replace hm := bd hm; obtain ⟨sync_1, hv192, hm⟩ := hm
 refine Rg_op rfl (op_call Try.call39 (c39_journal_Sync (l := append_2.1) (d := new_1.1) hs190.ltw f_y181_records r_y181_many r_y181_synced f_y12_sectors f_y12_pending r_y12_left hv192) rfl ?_)
 rintro v193 w194 ⟨hx195, h196⟩
 have hs197 := hs190.call hx195
 have p198 := Step.ext (O := ks [(some b183, Obj.cells [(Value.slice a_y181_records append_2.1.records.length c_y181_records), (Value.int .i64 append_2.1.many), (Value.int .i64 append_2.1.synced)].toArray 52), (some b35, Obj.cells [(Value.slice a_y33_records open_1.1.records.length c_y33_records), (Value.int .i64 open_1.1.many), (Value.int .i64 open_1.1.synced)].toArray 52), (some b14, Obj.cells [(Value.slice a_y12_sectors new_1.1.sectors.length c_y12_sectors), (Value.slice a_y12_pending new_1.1.pending.length c_y12_pending), (Value.int .i64 new_1.1.left), (Value.bool new_1.1.stopped)].toArray 25)] O) hx195
 clear hx195
 replace f_y12_sectors := f_y12_sectors.step p198; replace f_y12_pending := f_y12_pending.step p198; replace f_y33_records := f_y33_records.step p198; replace f_y181_records := f_y181_records.step p198; clear p198 hs190
 obtain ⟨v199, v200, v201, rfl, h202, h203, h204⟩ := h196
 obtain ⟨_, rfl, ⟨_, _, rfl, ⟨a_y205_records, c_y205_records, rfl, f_y205_records⟩, ⟨_, _, rfl, ⟨rfl, r_y205_many⟩, ⟨rfl, r_y205_synced⟩⟩⟩⟩ := h202
 obtain ⟨_, rfl, ⟨_, _, rfl, ⟨a_y206_sectors, c_y206_sectors, rfl, f_y206_sectors⟩, ⟨_, _, rfl, ⟨a_y206_pending, c_y206_pending, rfl, f_y206_pending⟩, ⟨_, _, rfl, ⟨rfl, r_y206_left⟩, rfl⟩⟩⟩⟩ := h203
 obtain ⟨rfl, r_y207⟩ := h204
 refine Rg_op rfl (op_move (v := (Value.tuple [(Value.agg [(Value.slice a_y205_records sync_1.1.records.length c_y205_records), (Value.int .i64 sync_1.1.many), (Value.int .i64 sync_1.1.synced)].toArray), (Value.agg [(Value.slice a_y206_sectors sync_1.2.1.sectors.length c_y206_sectors), (Value.slice a_y206_pending sync_1.2.1.pending.length c_y206_pending), (Value.int .i64 sync_1.2.1.left), (Value.bool sync_1.2.1.stopped)].toArray), (Value.int .i64 sync_1.2.2)].toArray)) rfl ?_)
 refine Rg_op rfl (op_extract (v := (Value.agg [(Value.slice a_y205_records sync_1.1.records.length c_y205_records), (Value.int .i64 sync_1.1.many), (Value.int .i64 sync_1.1.synced)].toArray)) rfl rfl ?_)
 refine Rg_op rfl (op_extract (v := (Value.agg [(Value.slice a_y206_sectors sync_1.2.1.sectors.length c_y206_sectors), (Value.slice a_y206_pending sync_1.2.1.pending.length c_y206_pending), (Value.int .i64 sync_1.2.1.left), (Value.bool sync_1.2.1.stopped)].toArray)) rfl rfl ?_)
 refine Rg_op rfl (op_extract (v := (Value.int .i64 sync_1.2.2)) rfl rfl ?_)
 refine Rg_op rfl (op_alloc ty52 hs197 ?_)
 intro b208 w209 _ p210 hs211
 replace f_y12_sectors := f_y12_sectors.step p210; replace f_y12_pending := f_y12_pending.step p210; replace f_y33_records := f_y33_records.step p210; replace f_y181_records := f_y181_records.step p210; replace f_y205_records := f_y205_records.step p210; replace f_y206_sectors := f_y206_sectors.step p210; replace f_y206_pending := f_y206_pending.step p210; clear p210 hs197
 refine Rg_op rfl (op_alloc ty25 hs211 ?_)
 intro b213 w214 _ p215 hs216
 replace f_y12_sectors := f_y12_sectors.step p215; replace f_y12_pending := f_y12_pending.step p215; replace f_y33_records := f_y33_records.step p215; replace f_y181_records := f_y181_records.step p215; replace f_y205_records := f_y205_records.step p215; replace f_y206_sectors := f_y206_sectors.step p215; replace f_y206_pending := f_y206_pending.step p215; clear p215 hs211
 refine Rg_op_ (op_store (cs := [(Value.slice none 0 0), (Value.int .i64 0), (Value.int .i64 0)]) (vs := [(Value.slice a_y205_records sync_1.1.records.length c_y205_records), (Value.int .i64 sync_1.1.many), (Value.int .i64 sync_1.1.synced)]) (cs' := [(Value.slice a_y205_records sync_1.1.records.length c_y205_records), (Value.int .i64 sync_1.1.many), (Value.int .i64 sync_1.1.synced)]) (bs' := [(some b213, Obj.cells [(Value.slice none 0 0), (Value.slice none 0 0), (Value.int .i64 0), (Value.bool false)].toArray 25), (some b208, Obj.cells [(Value.slice a_y205_records sync_1.1.records.length c_y205_records), (Value.int .i64 sync_1.1.many), (Value.int .i64 sync_1.1.synced)].toArray 52), (some b183, Obj.cells [(Value.slice a_y181_records append_2.1.records.length c_y181_records), (Value.int .i64 append_2.1.many), (Value.int .i64 append_2.1.synced)].toArray 52), (some b35, Obj.cells [(Value.slice a_y33_records open_1.1.records.length c_y33_records), (Value.int .i64 open_1.1.many), (Value.int .i64 open_1.1.synced)].toArray 52), (some b14, Obj.cells [(Value.slice a_y12_sectors new_1.1.sectors.length c_y12_sectors), (Value.slice a_y12_pending new_1.1.pending.length c_y12_pending), (Value.int .i64 new_1.1.left), (Value.bool new_1.1.stopped)].toArray 25)]) (i := 1) ty52 hs216 rfl rfl rfl rfl rfl (le_lit rfl) rfl rfl rfl ?_)
 intro w218 p219 hs220
 replace f_y12_sectors := f_y12_sectors.step p219; replace f_y12_pending := f_y12_pending.step p219; replace f_y33_records := f_y33_records.step p219; replace f_y181_records := f_y181_records.step p219; replace f_y205_records := f_y205_records.step p219; replace f_y206_sectors := f_y206_sectors.step p219; replace f_y206_pending := f_y206_pending.step p219; clear p219 hs216
 refine Rg_op_ (op_store (cs := [(Value.slice none 0 0), (Value.slice none 0 0), (Value.int .i64 0), (Value.bool false)]) (vs := [(Value.slice a_y206_sectors sync_1.2.1.sectors.length c_y206_sectors), (Value.slice a_y206_pending sync_1.2.1.pending.length c_y206_pending), (Value.int .i64 sync_1.2.1.left), (Value.bool sync_1.2.1.stopped)]) (cs' := [(Value.slice a_y206_sectors sync_1.2.1.sectors.length c_y206_sectors), (Value.slice a_y206_pending sync_1.2.1.pending.length c_y206_pending), (Value.int .i64 sync_1.2.1.left), (Value.bool sync_1.2.1.stopped)]) (bs' := [(some b213, Obj.cells [(Value.slice a_y206_sectors sync_1.2.1.sectors.length c_y206_sectors), (Value.slice a_y206_pending sync_1.2.1.pending.length c_y206_pending), (Value.int .i64 sync_1.2.1.left), (Value.bool sync_1.2.1.stopped)].toArray 25), (some b208, Obj.cells [(Value.slice a_y205_records sync_1.1.records.length c_y205_records), (Value.int .i64 sync_1.1.many), (Value.int .i64 sync_1.1.synced)].toArray 52), (some b183, Obj.cells [(Value.slice a_y181_records append_2.1.records.length c_y181_records), (Value.int .i64 append_2.1.many), (Value.int .i64 append_2.1.synced)].toArray 52), (some b35, Obj.cells [(Value.slice a_y33_records open_1.1.records.length c_y33_records), (Value.int .i64 open_1.1.many), (Value.int .i64 open_1.1.synced)].toArray 52), (some b14, Obj.cells [(Value.slice a_y12_sectors new_1.1.sectors.length c_y12_sectors), (Value.slice a_y12_pending new_1.1.pending.length c_y12_pending), (Value.int .i64 new_1.1.left), (Value.bool new_1.1.stopped)].toArray 25)]) (i := 0) ty25 hs220 rfl rfl rfl rfl rfl (le_lit rfl) rfl rfl rfl ?_)
 intro w221 p222 hs223
 replace f_y12_sectors := f_y12_sectors.step p222; replace f_y12_pending := f_y12_pending.step p222; replace f_y33_records := f_y33_records.step p222; replace f_y181_records := f_y181_records.step p222; replace f_y205_records := f_y205_records.step p222; replace f_y206_sectors := f_y206_sectors.step p222; replace f_y206_pending := f_y206_pending.step p222; clear p222 hs220
 refine Rg_op rfl (op_assign (v := (Value.int .i64 sync_1.2.2)) rfl ?_)
 refine Rg_nil ?_
 refine Wp_seq ?_
 obtain ⟨hs224, p225⟩ := hs223.sub (bs' := [(some b213, Obj.cells [(Value.slice a_y206_sectors sync_1.2.1.sectors.length c_y206_sectors), (Value.slice a_y206_pending sync_1.2.1.pending.length c_y206_pending), (Value.int .i64 sync_1.2.1.left), (Value.bool sync_1.2.1.stopped)].toArray 25), (some b208, Obj.cells [(Value.slice a_y205_records sync_1.1.records.length c_y205_records), (Value.int .i64 sync_1.1.many), (Value.int .i64 sync_1.1.synced)].toArray 52), (some b183, Obj.cells [(Value.slice a_y181_records append_2.1.records.length c_y181_records), (Value.int .i64 append_2.1.many), (Value.int .i64 append_2.1.synced)].toArray 52), (some b35, Obj.cells [(Value.slice a_y33_records open_1.1.records.length c_y33_records), (Value.int .i64 open_1.1.many), (Value.int .i64 open_1.1.synced)].toArray 52)]) (.cons_cons _ (.cons_cons _ (.cons_cons _ (.cons_cons _ (.cons _ List.Sublist.slnil)))))
 clear f_y12_sectors f_y12_pending
 replace f_y33_records := f_y33_records.step p225; replace f_y181_records := f_y181_records.step p225; replace f_y205_records := f_y205_records.step p225; replace f_y206_sectors := f_y206_sectors.step p225; replace f_y206_pending := f_y206_pending.step p225; clear p225 hs223
 refine Wp_region ?_
 refine Rg_op rfl (op_loadA (cs := [(Value.slice a_y206_sectors sync_1.2.1.sectors.length c_y206_sectors), (Value.slice a_y206_pending sync_1.2.1.pending.length c_y206_pending), (Value.int .i64 sync_1.2.1.left), (Value.bool sync_1.2.1.stopped)]) (vs := [(Value.slice a_y206_sectors sync_1.2.1.sectors.length c_y206_sectors), (Value.slice a_y206_pending sync_1.2.1.pending.length c_y206_pending), (Value.int .i64 sync_1.2.1.left), (Value.bool sync_1.2.1.stopped)]) (i := 0) ty25 hs224 rfl rfl rfl rfl ?_)
 replace hm := bd hm; obtain ⟨open_2, hv226, hm⟩ := hm
 refine Rg_op rfl (op_call Try.call38 (c38_journal_Open (d := sync_1.2.1) hs224.ltw f_y206_sectors f_y206_pending r_y206_left hv226) rfl ?_)
 rintro v227 w228 ⟨hx229, h230⟩
 have hs231 := hs224.call hx229
 have p232 := Step.ext (O := ks [(some b213, Obj.cells [(Value.slice a_y206_sectors sync_1.2.1.sectors.length c_y206_sectors), (Value.slice a_y206_pending sync_1.2.1.pending.length c_y206_pending), (Value.int .i64 sync_1.2.1.left), (Value.bool sync_1.2.1.stopped)].toArray 25), (some b208, Obj.cells [(Value.slice a_y205_records sync_1.1.records.length c_y205_records), (Value.int .i64 sync_1.1.many), (Value.int .i64 sync_1.1.synced)].toArray 52), (some b183, Obj.cells [(Value.slice a_y181_records append_2.1.records.length c_y181_records), (Value.int .i64 append_2.1.many), (Value.int .i64 append_2.1.synced)].toArray 52), (some b35, Obj.cells [(Value.slice a_y33_records open_1.1.records.length c_y33_records), (Value.int .i64 open_1.1.many), (Value.int .i64 open_1.1.synced)].toArray 52)] O) hx229
 clear hx229
 replace f_y33_records := f_y33_records.step p232; replace f_y181_records := f_y181_records.step p232; replace f_y205_records := f_y205_records.step p232; replace f_y206_sectors := f_y206_sectors.step p232; replace f_y206_pending := f_y206_pending.step p232; clear p232 hs224
 obtain ⟨v233, v234, rfl, h235, h236⟩ := h230
 obtain ⟨_, rfl, ⟨_, _, rfl, ⟨a_y237_records, c_y237_records, rfl, f_y237_records⟩, ⟨_, _, rfl, ⟨rfl, r_y237_many⟩, ⟨rfl, r_y237_synced⟩⟩⟩⟩ := h235
 obtain ⟨rfl, r_y238⟩ := h236
 refine Rg_op rfl (op_move (v := (Value.tuple [(Value.agg [(Value.slice a_y237_records open_2.1.records.length c_y237_records), (Value.int .i64 open_2.1.many), (Value.int .i64 open_2.1.synced)].toArray), (Value.int .i64 open_2.2)].toArray)) rfl ?_)
 refine Rg_op rfl (op_extract (v := (Value.agg [(Value.slice a_y237_records open_2.1.records.length c_y237_records), (Value.int .i64 open_2.1.many), (Value.int .i64 open_2.1.synced)].toArray)) rfl rfl ?_)
 refine Rg_op rfl (op_extract (v := (Value.int .i64 open_2.2)) rfl rfl ?_)
 refine Rg_op rfl (op_alloc ty52 hs231 ?_)
 intro b239 w240 _ p241 hs242
 replace f_y33_records := f_y33_records.step p241; replace f_y181_records := f_y181_records.step p241; replace f_y205_records := f_y205_records.step p241; replace f_y206_sectors := f_y206_sectors.step p241; replace f_y206_pending := f_y206_pending.step p241; replace f_y237_records := f_y237_records.step p241; clear p241 hs231
 refine Rg_op_ (op_store (cs := [(Value.slice none 0 0), (Value.int .i64 0), (Value.int .i64 0)]) (vs := [(Value.slice a_y237_records open_2.1.records.length c_y237_records), (Value.int .i64 open_2.1.many), (Value.int .i64 open_2.1.synced)]) (cs' := [(Value.slice a_y237_records open_2.1.records.length c_y237_records), (Value.int .i64 open_2.1.many), (Value.int .i64 open_2.1.synced)]) (bs' := [(some b239, Obj.cells [(Value.slice a_y237_records open_2.1.records.length c_y237_records), (Value.int .i64 open_2.1.many), (Value.int .i64 open_2.1.synced)].toArray 52), (some b213, Obj.cells [(Value.slice a_y206_sectors sync_1.2.1.sectors.length c_y206_sectors), (Value.slice a_y206_pending sync_1.2.1.pending.length c_y206_pending), (Value.int .i64 sync_1.2.1.left), (Value.bool sync_1.2.1.stopped)].toArray 25), (some b208, Obj.cells [(Value.slice a_y205_records sync_1.1.records.length c_y205_records), (Value.int .i64 sync_1.1.many), (Value.int .i64 sync_1.1.synced)].toArray 52), (some b183, Obj.cells [(Value.slice a_y181_records append_2.1.records.length c_y181_records), (Value.int .i64 append_2.1.many), (Value.int .i64 append_2.1.synced)].toArray 52), (some b35, Obj.cells [(Value.slice a_y33_records open_1.1.records.length c_y33_records), (Value.int .i64 open_1.1.many), (Value.int .i64 open_1.1.synced)].toArray 52)]) (i := 0) ty52 hs242 rfl rfl rfl rfl rfl (le_lit rfl) rfl rfl rfl ?_)
 intro w244 p245 hs246
 replace f_y33_records := f_y33_records.step p245; replace f_y181_records := f_y181_records.step p245; replace f_y205_records := f_y205_records.step p245; replace f_y206_sectors := f_y206_sectors.step p245; replace f_y206_pending := f_y206_pending.step p245; replace f_y237_records := f_y237_records.step p245; clear p245 hs242
 refine Rg_op rfl (op_assign (v := (Value.int .i64 open_2.2)) rfl ?_)
 refine Rg_nil ?_
 refine Wp_seq ?_
 refine Wp_region ?_
 refine Rg_op rfl (op_loadA (cs := [(Value.slice a_y181_records append_2.1.records.length c_y181_records), (Value.int .i64 append_2.1.many), (Value.int .i64 append_2.1.synced)]) (vs := [(Value.slice a_y181_records append_2.1.records.length c_y181_records), (Value.int .i64 append_2.1.many), (Value.int .i64 append_2.1.synced)]) (i := 3) ty52 hs246 rfl rfl rfl rfl ?_)
 refine Rg_op rfl (op_loadA (cs := [(Value.slice a_y206_sectors sync_1.2.1.sectors.length c_y206_sectors), (Value.slice a_y206_pending sync_1.2.1.pending.length c_y206_pending), (Value.int .i64 sync_1.2.1.left), (Value.bool sync_1.2.1.stopped)]) (vs := [(Value.slice a_y206_sectors sync_1.2.1.sectors.length c_y206_sectors), (Value.slice a_y206_pending sync_1.2.1.pending.length c_y206_pending), (Value.int .i64 sync_1.2.1.left), (Value.bool sync_1.2.1.stopped)]) (i := 1) ty25 hs246 rfl rfl rfl rfl ?_)
 replace hm := bd hm; obtain ⟨sync_2, hv247, hm⟩ := hm
 refine Rg_op rfl (op_call Try.call39 (c39_journal_Sync (l := append_2.1) (d := sync_1.2.1) hs246.ltw f_y181_records r_y181_many r_y181_synced f_y206_sectors f_y206_pending r_y206_left hv247) rfl ?_)
 rintro v248 w249 ⟨hx250, h251⟩
 have hs252 := hs246.call hx250
 have p253 := Step.ext (O := ks [(some b239, Obj.cells [(Value.slice a_y237_records open_2.1.records.length c_y237_records), (Value.int .i64 open_2.1.many), (Value.int .i64 open_2.1.synced)].toArray 52), (some b213, Obj.cells [(Value.slice a_y206_sectors sync_1.2.1.sectors.length c_y206_sectors), (Value.slice a_y206_pending sync_1.2.1.pending.length c_y206_pending), (Value.int .i64 sync_1.2.1.left), (Value.bool sync_1.2.1.stopped)].toArray 25), (some b208, Obj.cells [(Value.slice a_y205_records sync_1.1.records.length c_y205_records), (Value.int .i64 sync_1.1.many), (Value.int .i64 sync_1.1.synced)].toArray 52), (some b183, Obj.cells [(Value.slice a_y181_records append_2.1.records.length c_y181_records), (Value.int .i64 append_2.1.many), (Value.int .i64 append_2.1.synced)].toArray 52), (some b35, Obj.cells [(Value.slice a_y33_records open_1.1.records.length c_y33_records), (Value.int .i64 open_1.1.many), (Value.int .i64 open_1.1.synced)].toArray 52)] O) hx250
 clear hx250
 replace f_y33_records := f_y33_records.step p253; replace f_y181_records := f_y181_records.step p253; replace f_y205_records := f_y205_records.step p253; replace f_y206_sectors := f_y206_sectors.step p253; replace f_y206_pending := f_y206_pending.step p253; replace f_y237_records := f_y237_records.step p253; clear p253 hs246
 obtain ⟨v254, v255, v256, rfl, h257, h258, h259⟩ := h251
 obtain ⟨_, rfl, ⟨_, _, rfl, ⟨a_y260_records, c_y260_records, rfl, f_y260_records⟩, ⟨_, _, rfl, ⟨rfl, r_y260_many⟩, ⟨rfl, r_y260_synced⟩⟩⟩⟩ := h257
 obtain ⟨_, rfl, ⟨_, _, rfl, ⟨a_y261_sectors, c_y261_sectors, rfl, f_y261_sectors⟩, ⟨_, _, rfl, ⟨a_y261_pending, c_y261_pending, rfl, f_y261_pending⟩, ⟨_, _, rfl, ⟨rfl, r_y261_left⟩, rfl⟩⟩⟩⟩ := h258
 obtain ⟨rfl, r_y262⟩ := h259
 refine Rg_op rfl (op_move (v := (Value.tuple [(Value.agg [(Value.slice a_y260_records sync_2.1.records.length c_y260_records), (Value.int .i64 sync_2.1.many), (Value.int .i64 sync_2.1.synced)].toArray), (Value.agg [(Value.slice a_y261_sectors sync_2.2.1.sectors.length c_y261_sectors), (Value.slice a_y261_pending sync_2.2.1.pending.length c_y261_pending), (Value.int .i64 sync_2.2.1.left), (Value.bool sync_2.2.1.stopped)].toArray), (Value.int .i64 sync_2.2.2)].toArray)) rfl ?_)
 refine Rg_op rfl (op_extract (v := (Value.agg [(Value.slice a_y260_records sync_2.1.records.length c_y260_records), (Value.int .i64 sync_2.1.many), (Value.int .i64 sync_2.1.synced)].toArray)) rfl rfl ?_)
 refine Rg_op rfl (op_extract (v := (Value.agg [(Value.slice a_y261_sectors sync_2.2.1.sectors.length c_y261_sectors), (Value.slice a_y261_pending sync_2.2.1.pending.length c_y261_pending), (Value.int .i64 sync_2.2.1.left), (Value.bool sync_2.2.1.stopped)].toArray)) rfl rfl ?_)
 refine Rg_op rfl (op_extract (v := (Value.int .i64 sync_2.2.2)) rfl rfl ?_)
 refine Rg_op rfl (op_alloc ty52 hs252 ?_)
 intro b263 w264 _ p265 hs266
 replace f_y33_records := f_y33_records.step p265; replace f_y181_records := f_y181_records.step p265; replace f_y205_records := f_y205_records.step p265; replace f_y206_sectors := f_y206_sectors.step p265; replace f_y206_pending := f_y206_pending.step p265; replace f_y237_records := f_y237_records.step p265; replace f_y260_records := f_y260_records.step p265; replace f_y261_sectors := f_y261_sectors.step p265; replace f_y261_pending := f_y261_pending.step p265; clear p265 hs252
 refine Rg_op rfl (op_alloc ty25 hs266 ?_)
 intro b268 w269 _ p270 hs271
 replace f_y33_records := f_y33_records.step p270; replace f_y181_records := f_y181_records.step p270; replace f_y205_records := f_y205_records.step p270; replace f_y206_sectors := f_y206_sectors.step p270; replace f_y206_pending := f_y206_pending.step p270; replace f_y237_records := f_y237_records.step p270; replace f_y260_records := f_y260_records.step p270; replace f_y261_sectors := f_y261_sectors.step p270; replace f_y261_pending := f_y261_pending.step p270; clear p270 hs266
 refine Rg_op_ (op_store (cs := [(Value.slice none 0 0), (Value.int .i64 0), (Value.int .i64 0)]) (vs := [(Value.slice a_y260_records sync_2.1.records.length c_y260_records), (Value.int .i64 sync_2.1.many), (Value.int .i64 sync_2.1.synced)]) (cs' := [(Value.slice a_y260_records sync_2.1.records.length c_y260_records), (Value.int .i64 sync_2.1.many), (Value.int .i64 sync_2.1.synced)]) (bs' := [(some b268, Obj.cells [(Value.slice none 0 0), (Value.slice none 0 0), (Value.int .i64 0), (Value.bool false)].toArray 25), (some b263, Obj.cells [(Value.slice a_y260_records sync_2.1.records.length c_y260_records), (Value.int .i64 sync_2.1.many), (Value.int .i64 sync_2.1.synced)].toArray 52), (some b239, Obj.cells [(Value.slice a_y237_records open_2.1.records.length c_y237_records), (Value.int .i64 open_2.1.many), (Value.int .i64 open_2.1.synced)].toArray 52), (some b213, Obj.cells [(Value.slice a_y206_sectors sync_1.2.1.sectors.length c_y206_sectors), (Value.slice a_y206_pending sync_1.2.1.pending.length c_y206_pending), (Value.int .i64 sync_1.2.1.left), (Value.bool sync_1.2.1.stopped)].toArray 25), (some b208, Obj.cells [(Value.slice a_y205_records sync_1.1.records.length c_y205_records), (Value.int .i64 sync_1.1.many), (Value.int .i64 sync_1.1.synced)].toArray 52), (some b183, Obj.cells [(Value.slice a_y181_records append_2.1.records.length c_y181_records), (Value.int .i64 append_2.1.many), (Value.int .i64 append_2.1.synced)].toArray 52), (some b35, Obj.cells [(Value.slice a_y33_records open_1.1.records.length c_y33_records), (Value.int .i64 open_1.1.many), (Value.int .i64 open_1.1.synced)].toArray 52)]) (i := 1) ty52 hs271 rfl rfl rfl rfl rfl (le_lit rfl) rfl rfl rfl ?_)
 intro w273 p274 hs275
 replace f_y33_records := f_y33_records.step p274; replace f_y181_records := f_y181_records.step p274; replace f_y205_records := f_y205_records.step p274; replace f_y206_sectors := f_y206_sectors.step p274; replace f_y206_pending := f_y206_pending.step p274; replace f_y237_records := f_y237_records.step p274; replace f_y260_records := f_y260_records.step p274; replace f_y261_sectors := f_y261_sectors.step p274; replace f_y261_pending := f_y261_pending.step p274; clear p274 hs271
 refine Rg_op_ (op_store (cs := [(Value.slice none 0 0), (Value.slice none 0 0), (Value.int .i64 0), (Value.bool false)]) (vs := [(Value.slice a_y261_sectors sync_2.2.1.sectors.length c_y261_sectors), (Value.slice a_y261_pending sync_2.2.1.pending.length c_y261_pending), (Value.int .i64 sync_2.2.1.left), (Value.bool sync_2.2.1.stopped)]) (cs' := [(Value.slice a_y261_sectors sync_2.2.1.sectors.length c_y261_sectors), (Value.slice a_y261_pending sync_2.2.1.pending.length c_y261_pending), (Value.int .i64 sync_2.2.1.left), (Value.bool sync_2.2.1.stopped)]) (bs' := [(some b268, Obj.cells [(Value.slice a_y261_sectors sync_2.2.1.sectors.length c_y261_sectors), (Value.slice a_y261_pending sync_2.2.1.pending.length c_y261_pending), (Value.int .i64 sync_2.2.1.left), (Value.bool sync_2.2.1.stopped)].toArray 25), (some b263, Obj.cells [(Value.slice a_y260_records sync_2.1.records.length c_y260_records), (Value.int .i64 sync_2.1.many), (Value.int .i64 sync_2.1.synced)].toArray 52), (some b239, Obj.cells [(Value.slice a_y237_records open_2.1.records.length c_y237_records), (Value.int .i64 open_2.1.many), (Value.int .i64 open_2.1.synced)].toArray 52), (some b213, Obj.cells [(Value.slice a_y206_sectors sync_1.2.1.sectors.length c_y206_sectors), (Value.slice a_y206_pending sync_1.2.1.pending.length c_y206_pending), (Value.int .i64 sync_1.2.1.left), (Value.bool sync_1.2.1.stopped)].toArray 25), (some b208, Obj.cells [(Value.slice a_y205_records sync_1.1.records.length c_y205_records), (Value.int .i64 sync_1.1.many), (Value.int .i64 sync_1.1.synced)].toArray 52), (some b183, Obj.cells [(Value.slice a_y181_records append_2.1.records.length c_y181_records), (Value.int .i64 append_2.1.many), (Value.int .i64 append_2.1.synced)].toArray 52), (some b35, Obj.cells [(Value.slice a_y33_records open_1.1.records.length c_y33_records), (Value.int .i64 open_1.1.many), (Value.int .i64 open_1.1.synced)].toArray 52)]) (i := 0) ty25 hs275 rfl rfl rfl rfl rfl (le_lit rfl) rfl rfl rfl ?_)
 intro w276 p277 hs278
 replace f_y33_records := f_y33_records.step p277; replace f_y181_records := f_y181_records.step p277; replace f_y205_records := f_y205_records.step p277; replace f_y206_sectors := f_y206_sectors.step p277; replace f_y206_pending := f_y206_pending.step p277; replace f_y237_records := f_y237_records.step p277; replace f_y260_records := f_y260_records.step p277; replace f_y261_sectors := f_y261_sectors.step p277; replace f_y261_pending := f_y261_pending.step p277; clear p277 hs275
 refine Rg_op rfl (op_assign (v := (Value.int .i64 sync_2.2.2)) rfl ?_)
 refine Rg_nil ?_
 refine Wp_reset [] [(2, (Value.int .i64 new_1.2)), (3, (Value.pointer (some ⟨b35, 0, none⟩))), (4, (Value.int .i64 open_1.2)), (6, (Value.int .i64 append_1.2)), (8, (Value.int .i64 append_2.2)), (9, (Value.pointer (some ⟨b208, 0, none⟩))), (11, (Value.int .i64 sync_1.2.2)), (12, (Value.pointer (some ⟨b239, 0, none⟩))), (13, (Value.int .i64 open_2.2)), (16, (Value.int .i64 sync_2.2.2))] rfl ⟨rfl, rfl, rfl, rfl, rfl, rfl, rfl, rfl, rfl, rfl, trivial⟩ fun ξ279 => ?_
 replace hm := jn_elim hm; obtain ⟨k281, hk282, hm⟩ := hm
 refine Wp_seqJ [0, 58, 59, 60, 61, 62, 63, 64, 65, 66, 67, 68, 69, 70, 71, 72, 73, 74, 75, 76, 77, 78, 79, 80, 81, 82, 83, 84, 85, 86, 87, 88, 89, 90, 91, 92, 93, 94, 95, 96, 97, 98, 99, 100, 101, 102, 103, 104, 105, 106, 107, 108, 109, 110, 111, 112, 113, 114, 115, 116, 117, 118] (fun fr w' => ∃ (v_1 : Bool) (Ebs : Ents), Ebs = [(some b268, Obj.cells [(Value.slice a_y261_sectors sync_2.2.1.sectors.length c_y261_sectors), (Value.slice a_y261_pending sync_2.2.1.pending.length c_y261_pending), (Value.int .i64 sync_2.2.1.left), (Value.bool sync_2.2.1.stopped)].toArray 25), (some b263, Obj.cells [(Value.slice a_y260_records sync_2.1.records.length c_y260_records), (Value.int .i64 sync_2.1.many), (Value.int .i64 sync_2.1.synced)].toArray 52), (some b239, Obj.cells [(Value.slice a_y237_records open_2.1.records.length c_y237_records), (Value.int .i64 open_2.1.many), (Value.int .i64 open_2.1.synced)].toArray 52), (some b213, Obj.cells [(Value.slice a_y206_sectors sync_1.2.1.sectors.length c_y206_sectors), (Value.slice a_y206_pending sync_1.2.1.pending.length c_y206_pending), (Value.int .i64 sync_1.2.1.left), (Value.bool sync_1.2.1.stopped)].toArray 25), (some b208, Obj.cells [(Value.slice a_y205_records sync_1.1.records.length c_y205_records), (Value.int .i64 sync_1.1.many), (Value.int .i64 sync_1.1.synced)].toArray 52), (some b183, Obj.cells [(Value.slice a_y181_records append_2.1.records.length c_y181_records), (Value.int .i64 append_2.1.many), (Value.int .i64 append_2.1.synced)].toArray 52), (some b35, Obj.cells [(Value.slice a_y33_records open_1.1.records.length c_y33_records), (Value.int .i64 open_1.1.many), (Value.int .i64 open_1.1.synced)].toArray 52)] ∧ fr [] [(0, (Value.bool v_1))] ∧ Step (ks [(some b268, Obj.cells [(Value.slice a_y261_sectors sync_2.2.1.sectors.length c_y261_sectors), (Value.slice a_y261_pending sync_2.2.1.pending.length c_y261_pending), (Value.int .i64 sync_2.2.1.left), (Value.bool sync_2.2.1.stopped)].toArray 25), (some b263, Obj.cells [(Value.slice a_y260_records sync_2.1.records.length c_y260_records), (Value.int .i64 sync_2.1.many), (Value.int .i64 sync_2.1.synced)].toArray 52), (some b239, Obj.cells [(Value.slice a_y237_records open_2.1.records.length c_y237_records), (Value.int .i64 open_2.1.many), (Value.int .i64 open_2.1.synced)].toArray 52), (some b213, Obj.cells [(Value.slice a_y206_sectors sync_1.2.1.sectors.length c_y206_sectors), (Value.slice a_y206_pending sync_1.2.1.pending.length c_y206_pending), (Value.int .i64 sync_1.2.1.left), (Value.bool sync_1.2.1.stopped)].toArray 25), (some b208, Obj.cells [(Value.slice a_y205_records sync_1.1.records.length c_y205_records), (Value.int .i64 sync_1.1.many), (Value.int .i64 sync_1.1.synced)].toArray 52), (some b183, Obj.cells [(Value.slice a_y181_records append_2.1.records.length c_y181_records), (Value.int .i64 append_2.1.many), (Value.int .i64 append_2.1.synced)].toArray 52), (some b35, Obj.cells [(Value.slice a_y33_records open_1.1.records.length c_y33_records), (Value.int .i64 open_1.1.many), (Value.int .i64 open_1.1.synced)].toArray 52)] O) w276 (ks Ebs O) w' ∧ St ⟨w, [], []⟩ O w' Ebs ∧ k281 v_1 = some x) ?_ ?_
 ·
  rintro ρ288 w284 ⟨v_1, Ebs, hEbs, hfr287, hst286, hs285, hm⟩
  replace hm := jnE1 hk282 hm
  subst hEbs; rw [hfr287.eq]; clear hfr287
  replace f_y33_records := f_y33_records.step hst286; replace f_y181_records := f_y181_records.step hst286; replace f_y205_records := f_y205_records.step hst286; replace f_y206_sectors := f_y206_sectors.step hst286; replace f_y206_pending := f_y206_pending.step hst286; replace f_y237_records := f_y237_records.step hst286; replace f_y260_records := f_y260_records.step hst286; replace f_y261_sectors := f_y261_sectors.step hst286; replace f_y261_pending := f_y261_pending.step hst286; clear hst286 hs278
  refine Wp_ret ?_
  have hz := step_all hs285
  replace f_y33_records := f_y33_records.step hz; replace f_y181_records := f_y181_records.step hz; replace f_y205_records := f_y205_records.step hz; replace f_y206_sectors := f_y206_sectors.step hz; replace f_y206_pending := f_y206_pending.step hz; replace f_y237_records := f_y237_records.step hz; replace f_y260_records := f_y260_records.step hz; replace f_y261_sectors := f_y261_sectors.step hz; replace f_y261_pending := f_y261_pending.step hz
  refine ⟨_, (show Closes [] _ _ from rfl), [(Value.bool v_1)], ⟨rfl, trivial⟩, hs285.ext, ?_⟩
  exact Vr.eq (a := vB) (x := v_1) rfl (Option.some.inj hm)
 ·
  intro K283 hK283
  have ch289 := Step.refl (ks [(some b268, Obj.cells [(Value.slice a_y261_sectors sync_2.2.1.sectors.length c_y261_sectors), (Value.slice a_y261_pending sync_2.2.1.pending.length c_y261_pending), (Value.int .i64 sync_2.2.1.left), (Value.bool sync_2.2.1.stopped)].toArray 25), (some b263, Obj.cells [(Value.slice a_y260_records sync_2.1.records.length c_y260_records), (Value.int .i64 sync_2.1.many), (Value.int .i64 sync_2.1.synced)].toArray 52), (some b239, Obj.cells [(Value.slice a_y237_records open_2.1.records.length c_y237_records), (Value.int .i64 open_2.1.many), (Value.int .i64 open_2.1.synced)].toArray 52), (some b213, Obj.cells [(Value.slice a_y206_sectors sync_1.2.1.sectors.length c_y206_sectors), (Value.slice a_y206_pending sync_1.2.1.pending.length c_y206_pending), (Value.int .i64 sync_1.2.1.left), (Value.bool sync_1.2.1.stopped)].toArray 25), (some b208, Obj.cells [(Value.slice a_y205_records sync_1.1.records.length c_y205_records), (Value.int .i64 sync_1.1.many), (Value.int .i64 sync_1.1.synced)].toArray 52), (some b183, Obj.cells [(Value.slice a_y181_records append_2.1.records.length c_y181_records), (Value.int .i64 append_2.1.many), (Value.int .i64 append_2.1.synced)].toArray 52), (some b35, Obj.cells [(Value.slice a_y33_records open_1.1.records.length c_y33_records), (Value.int .i64 open_1.1.many), (Value.int .i64 open_1.1.synced)].toArray 52)] O) w276
  refine Wp_region ?_
  refine Rg_op rfl (op_move (v := (Value.int .i64 new_1.2)) rfl ?_)
  refine Rg_op rfl (op_eql rfl rfl ?_)
  refine Rg_op rfl (op_move (v := (Value.bool (decide (new_1.2 = 0)))) rfl ?_)
  refine Rg_case (fun hg290 => ?_) (fun hg290 => ?_)
  ·
   replace hm := bif_t hm hg290
   refine Rg_opg rfl rfl rfl (op_move (v := (Value.int .i64 open_1.2)) rfl ?_)
   refine Rg_opg rfl rfl rfl (op_eql rfl rfl ?_)
   refine Rg_op rfl (op_pick_t (v := (Value.bool (decide (open_1.2 = 0)))) rfl rfl ?_)
   refine Rg_op rfl (op_move (v := (Value.bool (decide (open_1.2 = 0)))) rfl ?_)
   refine Rg_case (fun hg291 => ?_) (fun hg291 => ?_)
   ·
    replace hm := bif_t hm hg291
    refine Rg_opg rfl rfl rfl (op_fieldAddr ty52 rfl ty22 (by decide) rfl (rfl : _ = (⟨_, 0, none⟩ : Addr)) ?_)
    refine Rg_opg rfl rfl rfl (op_load (cs := [(Value.slice a_y33_records open_1.1.records.length c_y33_records), (Value.int .i64 open_1.1.many), (Value.int .i64 open_1.1.synced)]) (i := 6) ty22 hs278 rfl rfl rfl ?_)
    refine Rg_opg rfl rfl rfl (op_len Try.underlying22 rfl ?_)
    have rl292 := inK_len f_y33_records
    refine Rg_opg rfl rfl rfl (op_eql rfl rfl ?_)
    refine Rg_op rfl (op_pick_t (v := (Value.bool (decide ((open_1.1.records.length : Int) = 0)))) rfl rfl ?_)
    refine Rg_op rfl (op_move (v := (Value.bool (decide ((open_1.1.records.length : Int) = 0)))) rfl ?_)
    refine Rg_case (fun hg293 => ?_) (fun hg293 => ?_)
    ·
     replace hm := bif_t hm hg293
     refine Rg_opg rfl rfl rfl (op_loadA (cs := [(Value.slice a_y33_records open_1.1.records.length c_y33_records), (Value.int .i64 open_1.1.many), (Value.int .i64 open_1.1.synced)]) (vs := [(Value.slice a_y33_records open_1.1.records.length c_y33_records), (Value.int .i64 open_1.1.many), (Value.int .i64 open_1.1.synced)]) (i := 6) ty52 hs278 rfl rfl rfl rfl ?_)
     replace hm := bd hm; obtain ⟨room_1, hv294, hm⟩ := hm
     refine Rg_opg rfl rfl rfl (op_call Try.call34 (c34_journal_Room (l := open_1.1) hs278.ltw f_y33_records r_y33_many r_y33_synced hv294) rfl ?_)
     rintro v295 w296 ⟨hx297, h298⟩
     have hs299 := hs278.call hx297
     have p300 := Step.ext (O := ks [(some b268, Obj.cells [(Value.slice a_y261_sectors sync_2.2.1.sectors.length c_y261_sectors), (Value.slice a_y261_pending sync_2.2.1.pending.length c_y261_pending), (Value.int .i64 sync_2.2.1.left), (Value.bool sync_2.2.1.stopped)].toArray 25), (some b263, Obj.cells [(Value.slice a_y260_records sync_2.1.records.length c_y260_records), (Value.int .i64 sync_2.1.many), (Value.int .i64 sync_2.1.synced)].toArray 52), (some b239, Obj.cells [(Value.slice a_y237_records open_2.1.records.length c_y237_records), (Value.int .i64 open_2.1.many), (Value.int .i64 open_2.1.synced)].toArray 52), (some b213, Obj.cells [(Value.slice a_y206_sectors sync_1.2.1.sectors.length c_y206_sectors), (Value.slice a_y206_pending sync_1.2.1.pending.length c_y206_pending), (Value.int .i64 sync_1.2.1.left), (Value.bool sync_1.2.1.stopped)].toArray 25), (some b208, Obj.cells [(Value.slice a_y205_records sync_1.1.records.length c_y205_records), (Value.int .i64 sync_1.1.many), (Value.int .i64 sync_1.1.synced)].toArray 52), (some b183, Obj.cells [(Value.slice a_y181_records append_2.1.records.length c_y181_records), (Value.int .i64 append_2.1.many), (Value.int .i64 append_2.1.synced)].toArray 52), (some b35, Obj.cells [(Value.slice a_y33_records open_1.1.records.length c_y33_records), (Value.int .i64 open_1.1.many), (Value.int .i64 open_1.1.synced)].toArray 52)] O) hx297
     clear hx297
     replace f_y33_records := f_y33_records.step p300; replace f_y181_records := f_y181_records.step p300; replace f_y205_records := f_y205_records.step p300; replace f_y206_sectors := f_y206_sectors.step p300; replace f_y206_pending := f_y206_pending.step p300; replace f_y237_records := f_y237_records.step p300; replace f_y260_records := f_y260_records.step p300; replace f_y261_sectors := f_y261_sectors.step p300; replace f_y261_pending := f_y261_pending.step p300; replace ch289 := ch289.trans p300; clear p300 hs278
     obtain ⟨rfl, r_y301⟩ := h298
     refine Rg_opg rfl rfl rfl (op_eql rfl rfl ?_)
     refine Rg_op rfl (op_pick_t (v := (Value.bool (decide (room_1 = 112)))) rfl rfl ?_)
     refine Rg_op rfl (op_move (v := (Value.bool (decide (room_1 = 112)))) rfl ?_)
     refine Rg_case (fun hg302 => ?_) (fun hg302 => ?_)
     ·
      replace hm := bif_t hm hg302
      refine Rg_opg rfl rfl rfl (op_move (v := (Value.int .i64 append_1.2)) rfl ?_)
      refine Rg_opg rfl rfl rfl (op_eql rfl rfl ?_)
      refine Rg_op rfl (op_pick_t (v := (Value.bool (decide (append_1.2 = 2)))) rfl rfl ?_)
      refine Rg_op rfl (op_move (v := (Value.bool (decide (append_1.2 = 2)))) rfl ?_)
      refine Rg_case (fun hg303 => ?_) (fun hg303 => ?_)
      ·
       replace hm := bif_t hm hg303
       refine Rg_opg rfl rfl rfl (op_move (v := (Value.int .i64 append_2.2)) rfl ?_)
       refine Rg_opg rfl rfl rfl (op_eql rfl rfl ?_)
       refine Rg_op rfl (op_pick_t (v := (Value.bool (decide (append_2.2 = 0)))) rfl rfl ?_)
       refine Rg_op rfl (op_move (v := (Value.bool (decide (append_2.2 = 0)))) rfl ?_)
       refine Rg_case (fun hg304 => ?_) (fun hg304 => ?_)
       ·
        replace hm := bif_t hm hg304
        refine Rg_opg rfl rfl rfl (op_move (v := (Value.int .i64 sync_1.2.2)) rfl ?_)
        refine Rg_opg rfl rfl rfl (op_eql rfl rfl ?_)
        refine Rg_op rfl (op_pick_t (v := (Value.bool (decide (sync_1.2.2 = 0)))) rfl rfl ?_)
        refine Rg_op rfl (op_move (v := (Value.bool (decide (sync_1.2.2 = 0)))) rfl ?_)
        refine Rg_case (fun hg305 => ?_) (fun hg305 => ?_)
        ·
         replace hm := bif_t hm hg305
         refine Rg_opg rfl rfl rfl (op_fieldAddr ty52 rfl ty3 (by decide) rfl (rfl : _ = (⟨_, 2, none⟩ : Addr)) ?_)
         refine Rg_opg rfl rfl rfl (op_load (cs := [(Value.slice a_y205_records sync_1.1.records.length c_y205_records), (Value.int .i64 sync_1.1.many), (Value.int .i64 sync_1.1.synced)]) (i := 4) ty3 hs299 rfl rfl rfl ?_)
         refine Rg_opg rfl rfl rfl (op_eql rfl rfl ?_)
         refine Rg_op rfl (op_pick_t (v := (Value.bool (decide (sync_1.1.synced = 1)))) rfl rfl ?_)
         refine Rg_op rfl (op_move (v := (Value.bool (decide (sync_1.1.synced = 1)))) rfl ?_)
         refine Rg_case (fun hg306 => ?_) (fun hg306 => ?_)
         ·
          replace hm := bif_t hm hg306
          refine Rg_opg rfl rfl rfl (op_move (v := (Value.int .i64 open_2.2)) rfl ?_)
          refine Rg_opg rfl rfl rfl (op_eql rfl rfl ?_)
          refine Rg_op rfl (op_pick_t (v := (Value.bool (decide (open_2.2 = 0)))) rfl rfl ?_)
          refine Rg_op rfl (op_move (v := (Value.bool (decide (open_2.2 = 0)))) rfl ?_)
          refine Rg_case (fun hg307 => ?_) (fun hg307 => ?_)
          ·
           replace hm := bif_t hm hg307
           refine Rg_opg rfl rfl rfl (op_fieldAddr ty52 rfl ty22 (by decide) rfl (rfl : _ = (⟨_, 0, none⟩ : Addr)) ?_)
           refine Rg_opg rfl rfl rfl (op_load (cs := [(Value.slice a_y237_records open_2.1.records.length c_y237_records), (Value.int .i64 open_2.1.many), (Value.int .i64 open_2.1.synced)]) (i := 2) ty22 hs299 rfl rfl rfl ?_)
           refine Rg_opg rfl rfl rfl (op_len Try.underlying22 rfl ?_)
           have rl308 := inK_len f_y237_records
           refine Rg_opg rfl rfl rfl (op_eql rfl rfl ?_)
           refine Rg_op rfl (op_pick_t (v := (Value.bool (decide ((open_2.1.records.length : Int) = 1)))) rfl rfl ?_)
           refine Rg_op rfl (op_move (v := (Value.bool (decide ((open_2.1.records.length : Int) = 1)))) rfl ?_)
           refine Rg_case (fun hg309 => ?_) (fun hg309 => ?_)
           ·
            replace hm := bif_t hm hg309
            refine Rg_opg rfl rfl rfl (op_fieldAddr ty52 rfl ty22 (by decide) rfl (rfl : _ = (⟨_, 0, none⟩ : Addr)) ?_)
            refine Rg_opg rfl rfl rfl (op_load (cs := [(Value.slice a_y237_records open_2.1.records.length c_y237_records), (Value.int .i64 open_2.1.many), (Value.int .i64 open_2.1.synced)]) (i := 2) ty22 hs299 rfl rfl rfl ?_)
            replace hm := ck_some hm; obtain ⟨hc310, hm⟩ := hm
            refine Rg_opg rfl rfl rfl (op_indexAddr (q := (rSl rU8)) ty22 ty41 rfl rfl f_y237_records rfl hc310.1 hc310.2 ?_)
            intro p311 f312
            refine Rg_opg rfl rfl rfl (op_loadP ty41 rfl f312 rfl ?_)
            intro v313 h314
            obtain ⟨a_y315, c_y315, rfl, f_y315⟩ := un_sl h314
            refine Rg_opg rfl rfl rfl (op_bytesToString ty41 Try.underlying5 Try.underlying9 rfl f_y315 ?_)
            refine Rg_opg rfl rfl rfl (op_eqs (a := (open_2.1.records.getD 0 default)) (b := [97, 98]) rfl rfl ?_)
            refine Rg_op rfl (op_pick_t (v := (Value.bool (decide ((open_2.1.records.getD 0 default) = [97, 98])))) rfl rfl ?_)
            refine Rg_op rfl (op_move (v := (Value.bool (decide ((open_2.1.records.getD 0 default) = [97, 98])))) rfl ?_)
            refine Rg_case (fun hg316 => ?_) (fun hg316 => ?_)
            ·
             replace hm := bif_t hm hg316
             refine Rg_opg rfl rfl rfl (op_move (v := (Value.int .i64 sync_2.2.2)) rfl ?_)
             refine Rg_opg rfl rfl rfl (op_eql rfl rfl ?_)
             refine Rg_op rfl (op_pick_t (v := (Value.bool (decide (sync_2.2.2 = 450)))) rfl rfl ?_)
             refine Rg_op rfl (op_move (v := (Value.bool (decide (sync_2.2.2 = 450)))) rfl ?_)
             refine Rg_case (fun hg317 => ?_) (fun hg317 => ?_)
             ·
              replace hm := bif_t hm hg317
              refine Rg_opg rfl rfl rfl (op_build (vs := [(Value.slice none 0 0), (Value.int .i64 0), (Value.int .i64 0)]) (parts := []) ty52 pl52 rfl ?_)
              replace hm := bd hm; obtain ⟨check_1, hv318, hm⟩ := hm
              refine Rg_opg rfl rfl rfl (op_call Try.call32 (c32_journal_Check (l := (⟨([] : List (List UInt8)), 0, 0⟩ : XJournal)) hs299.ltw SlR.nil_ (show InK .i64 0 from by decide) (show InK .i64 0 from by decide) hv318) rfl ?_)
              rintro v319 w320 ⟨hx321, h322⟩
              have hs323 := hs299.call hx321
              have p324 := Step.ext (O := ks [(some b268, Obj.cells [(Value.slice a_y261_sectors sync_2.2.1.sectors.length c_y261_sectors), (Value.slice a_y261_pending sync_2.2.1.pending.length c_y261_pending), (Value.int .i64 sync_2.2.1.left), (Value.bool sync_2.2.1.stopped)].toArray 25), (some b263, Obj.cells [(Value.slice a_y260_records sync_2.1.records.length c_y260_records), (Value.int .i64 sync_2.1.many), (Value.int .i64 sync_2.1.synced)].toArray 52), (some b239, Obj.cells [(Value.slice a_y237_records open_2.1.records.length c_y237_records), (Value.int .i64 open_2.1.many), (Value.int .i64 open_2.1.synced)].toArray 52), (some b213, Obj.cells [(Value.slice a_y206_sectors sync_1.2.1.sectors.length c_y206_sectors), (Value.slice a_y206_pending sync_1.2.1.pending.length c_y206_pending), (Value.int .i64 sync_1.2.1.left), (Value.bool sync_1.2.1.stopped)].toArray 25), (some b208, Obj.cells [(Value.slice a_y205_records sync_1.1.records.length c_y205_records), (Value.int .i64 sync_1.1.many), (Value.int .i64 sync_1.1.synced)].toArray 52), (some b183, Obj.cells [(Value.slice a_y181_records append_2.1.records.length c_y181_records), (Value.int .i64 append_2.1.many), (Value.int .i64 append_2.1.synced)].toArray 52), (some b35, Obj.cells [(Value.slice a_y33_records open_1.1.records.length c_y33_records), (Value.int .i64 open_1.1.many), (Value.int .i64 open_1.1.synced)].toArray 52)] O) hx321
              clear hx321
              replace f_y33_records := f_y33_records.step p324; replace f_y181_records := f_y181_records.step p324; replace f_y205_records := f_y205_records.step p324; replace f_y206_sectors := f_y206_sectors.step p324; replace f_y206_pending := f_y206_pending.step p324; replace f_y237_records := f_y237_records.step p324; replace f_y260_records := f_y260_records.step p324; replace f_y261_sectors := f_y261_sectors.step p324; replace f_y261_pending := f_y261_pending.step p324; replace f312 := f312.step p324; replace f_y315 := f_y315.step p324; replace ch289 := ch289.trans p324; clear p324 hs299
              obtain ⟨rfl, r_y325⟩ := h322
              refine Rg_opg rfl rfl rfl (op_eql rfl rfl ?_)
              refine Rg_op rfl (op_pick_t (v := (Value.bool (decide (check_1 = 1)))) rfl rfl ?_)
              refine Rg_op rfl (op_assign (v := (Value.bool (decide (check_1 = 1)))) rfl ?_)
              refine Rg_nil ?_
              exact hK283 _ _ ⟨(decide (check_1 = 1)), _, rfl, ⟨(by repeat (first | with_reducible exact Out.refl _ _ | refine Out.upd ?_ rfl | refine Out.updL ?_ rfl | refine Out.mix' ?_ rfl | exact Out.refl _ _)), rfl, rfl, trivial⟩, ch289, hs323, hm⟩
             ·
              replace hm := bif_f hm hg317
              iterate 3 refine Rg_opx rfl (asB_ne rfl rfl) rfl ?_
              refine Rg_op rfl (op_pick_f (v := (Value.bool false)) rfl rfl ?_)
              refine Rg_op rfl (op_assign (v := (Value.bool false)) rfl ?_)
              refine Rg_nil ?_
              exact hK283 _ _ ⟨false, _, rfl, ⟨(by repeat (first | with_reducible exact Out.refl _ _ | refine Out.upd ?_ rfl | refine Out.updL ?_ rfl | refine Out.mix' ?_ rfl | exact Out.refl _ _)), rfl, rfl, trivial⟩, ch289, hs299, hm⟩
            ·
             replace hm := bif_f hm hg316
             iterate 2 refine Rg_opx rfl (asB_ne rfl rfl) rfl ?_
             refine Rg_op rfl (op_pick_f (v := (Value.bool false)) rfl rfl ?_)
             refine Rg_op rfl (op_move (v := (Value.bool false)) rfl ?_)
             iterate 3 refine Rg_opx rfl (asB_ne rfl rfl) rfl ?_
             refine Rg_op rfl (op_pick_f (v := (Value.bool false)) rfl rfl ?_)
             refine Rg_op rfl (op_assign (v := (Value.bool false)) rfl ?_)
             refine Rg_nil ?_
             exact hK283 _ _ ⟨false, _, rfl, ⟨(by repeat (first | with_reducible exact Out.refl _ _ | refine Out.upd ?_ rfl | refine Out.updL ?_ rfl | refine Out.mix' ?_ rfl | exact Out.refl _ _)), rfl, rfl, trivial⟩, ch289, hs299, hm⟩
           ·
            replace hm := bif_f hm hg309
            iterate 6 refine Rg_opx rfl (asB_ne rfl rfl) rfl ?_
            refine Rg_op rfl (op_pick_f (v := (Value.bool false)) rfl rfl ?_)
            refine Rg_op rfl (op_move (v := (Value.bool false)) rfl ?_)
            iterate 2 refine Rg_opx rfl (asB_ne rfl rfl) rfl ?_
            refine Rg_op rfl (op_pick_f (v := (Value.bool false)) rfl rfl ?_)
            refine Rg_op rfl (op_move (v := (Value.bool false)) rfl ?_)
            iterate 3 refine Rg_opx rfl (asB_ne rfl rfl) rfl ?_
            refine Rg_op rfl (op_pick_f (v := (Value.bool false)) rfl rfl ?_)
            refine Rg_op rfl (op_assign (v := (Value.bool false)) rfl ?_)
            refine Rg_nil ?_
            exact hK283 _ _ ⟨false, _, rfl, ⟨(by repeat (first | with_reducible exact Out.refl _ _ | refine Out.upd ?_ rfl | refine Out.updL ?_ rfl | refine Out.mix' ?_ rfl | exact Out.refl _ _)), rfl, rfl, trivial⟩, ch289, hs299, hm⟩
          ·
           replace hm := bif_f hm hg307
           iterate 4 refine Rg_opx rfl (asB_ne rfl rfl) rfl ?_
           refine Rg_op rfl (op_pick_f (v := (Value.bool false)) rfl rfl ?_)
           refine Rg_op rfl (op_move (v := (Value.bool false)) rfl ?_)
           iterate 6 refine Rg_opx rfl (asB_ne rfl rfl) rfl ?_
           refine Rg_op rfl (op_pick_f (v := (Value.bool false)) rfl rfl ?_)
           refine Rg_op rfl (op_move (v := (Value.bool false)) rfl ?_)
           iterate 2 refine Rg_opx rfl (asB_ne rfl rfl) rfl ?_
           refine Rg_op rfl (op_pick_f (v := (Value.bool false)) rfl rfl ?_)
           refine Rg_op rfl (op_move (v := (Value.bool false)) rfl ?_)
           iterate 3 refine Rg_opx rfl (asB_ne rfl rfl) rfl ?_
           refine Rg_op rfl (op_pick_f (v := (Value.bool false)) rfl rfl ?_)
           refine Rg_op rfl (op_assign (v := (Value.bool false)) rfl ?_)
           refine Rg_nil ?_
           exact hK283 _ _ ⟨false, _, rfl, ⟨(by repeat (first | with_reducible exact Out.refl _ _ | refine Out.upd ?_ rfl | refine Out.updL ?_ rfl | refine Out.mix' ?_ rfl | exact Out.refl _ _)), rfl, rfl, trivial⟩, ch289, hs299, hm⟩
         ·
          replace hm := bif_f hm hg306
          iterate 2 refine Rg_opx rfl (asB_ne rfl rfl) rfl ?_
          refine Rg_op rfl (op_pick_f (v := (Value.bool false)) rfl rfl ?_)
          refine Rg_op rfl (op_move (v := (Value.bool false)) rfl ?_)
          iterate 4 refine Rg_opx rfl (asB_ne rfl rfl) rfl ?_
          refine Rg_op rfl (op_pick_f (v := (Value.bool false)) rfl rfl ?_)
          refine Rg_op rfl (op_move (v := (Value.bool false)) rfl ?_)
          iterate 6 refine Rg_opx rfl (asB_ne rfl rfl) rfl ?_
          refine Rg_op rfl (op_pick_f (v := (Value.bool false)) rfl rfl ?_)
          refine Rg_op rfl (op_move (v := (Value.bool false)) rfl ?_)
          iterate 2 refine Rg_opx rfl (asB_ne rfl rfl) rfl ?_
          refine Rg_op rfl (op_pick_f (v := (Value.bool false)) rfl rfl ?_)
          refine Rg_op rfl (op_move (v := (Value.bool false)) rfl ?_)
          iterate 3 refine Rg_opx rfl (asB_ne rfl rfl) rfl ?_
          refine Rg_op rfl (op_pick_f (v := (Value.bool false)) rfl rfl ?_)
          refine Rg_op rfl (op_assign (v := (Value.bool false)) rfl ?_)
          refine Rg_nil ?_
          exact hK283 _ _ ⟨false, _, rfl, ⟨(by repeat (first | with_reducible exact Out.refl _ _ | refine Out.upd ?_ rfl | refine Out.updL ?_ rfl | refine Out.mix' ?_ rfl | exact Out.refl _ _)), rfl, rfl, trivial⟩, ch289, hs299, hm⟩
        ·
         replace hm := bif_f hm hg305
         iterate 3 refine Rg_opx rfl (asB_ne rfl rfl) rfl ?_
         refine Rg_op rfl (op_pick_f (v := (Value.bool false)) rfl rfl ?_)
         refine Rg_op rfl (op_move (v := (Value.bool false)) rfl ?_)
         iterate 2 refine Rg_opx rfl (asB_ne rfl rfl) rfl ?_
         refine Rg_op rfl (op_pick_f (v := (Value.bool false)) rfl rfl ?_)
         refine Rg_op rfl (op_move (v := (Value.bool false)) rfl ?_)
         iterate 4 refine Rg_opx rfl (asB_ne rfl rfl) rfl ?_
         refine Rg_op rfl (op_pick_f (v := (Value.bool false)) rfl rfl ?_)
         refine Rg_op rfl (op_move (v := (Value.bool false)) rfl ?_)
         iterate 6 refine Rg_opx rfl (asB_ne rfl rfl) rfl ?_
         refine Rg_op rfl (op_pick_f (v := (Value.bool false)) rfl rfl ?_)
         refine Rg_op rfl (op_move (v := (Value.bool false)) rfl ?_)
         iterate 2 refine Rg_opx rfl (asB_ne rfl rfl) rfl ?_
         refine Rg_op rfl (op_pick_f (v := (Value.bool false)) rfl rfl ?_)
         refine Rg_op rfl (op_move (v := (Value.bool false)) rfl ?_)
         iterate 3 refine Rg_opx rfl (asB_ne rfl rfl) rfl ?_
         refine Rg_op rfl (op_pick_f (v := (Value.bool false)) rfl rfl ?_)
         refine Rg_op rfl (op_assign (v := (Value.bool false)) rfl ?_)
         refine Rg_nil ?_
         exact hK283 _ _ ⟨false, _, rfl, ⟨(by repeat (first | with_reducible exact Out.refl _ _ | refine Out.upd ?_ rfl | refine Out.updL ?_ rfl | refine Out.mix' ?_ rfl | exact Out.refl _ _)), rfl, rfl, trivial⟩, ch289, hs299, hm⟩
       ·
        replace hm := bif_f hm hg304
        iterate 2 refine Rg_opx rfl (asB_ne rfl rfl) rfl ?_
        refine Rg_op rfl (op_pick_f (v := (Value.bool false)) rfl rfl ?_)
        refine Rg_op rfl (op_move (v := (Value.bool false)) rfl ?_)
        iterate 3 refine Rg_opx rfl (asB_ne rfl rfl) rfl ?_
        refine Rg_op rfl (op_pick_f (v := (Value.bool false)) rfl rfl ?_)
        refine Rg_op rfl (op_move (v := (Value.bool false)) rfl ?_)
        iterate 2 refine Rg_opx rfl (asB_ne rfl rfl) rfl ?_
        refine Rg_op rfl (op_pick_f (v := (Value.bool false)) rfl rfl ?_)
        refine Rg_op rfl (op_move (v := (Value.bool false)) rfl ?_)
        iterate 4 refine Rg_opx rfl (asB_ne rfl rfl) rfl ?_
        refine Rg_op rfl (op_pick_f (v := (Value.bool false)) rfl rfl ?_)
        refine Rg_op rfl (op_move (v := (Value.bool false)) rfl ?_)
        iterate 6 refine Rg_opx rfl (asB_ne rfl rfl) rfl ?_
        refine Rg_op rfl (op_pick_f (v := (Value.bool false)) rfl rfl ?_)
        refine Rg_op rfl (op_move (v := (Value.bool false)) rfl ?_)
        iterate 2 refine Rg_opx rfl (asB_ne rfl rfl) rfl ?_
        refine Rg_op rfl (op_pick_f (v := (Value.bool false)) rfl rfl ?_)
        refine Rg_op rfl (op_move (v := (Value.bool false)) rfl ?_)
        iterate 3 refine Rg_opx rfl (asB_ne rfl rfl) rfl ?_
        refine Rg_op rfl (op_pick_f (v := (Value.bool false)) rfl rfl ?_)
        refine Rg_op rfl (op_assign (v := (Value.bool false)) rfl ?_)
        refine Rg_nil ?_
        exact hK283 _ _ ⟨false, _, rfl, ⟨(by repeat (first | with_reducible exact Out.refl _ _ | refine Out.upd ?_ rfl | refine Out.updL ?_ rfl | refine Out.mix' ?_ rfl | exact Out.refl _ _)), rfl, rfl, trivial⟩, ch289, hs299, hm⟩
      ·
       replace hm := bif_f hm hg303
       iterate 2 refine Rg_opx rfl (asB_ne rfl rfl) rfl ?_
       refine Rg_op rfl (op_pick_f (v := (Value.bool false)) rfl rfl ?_)
       refine Rg_op rfl (op_move (v := (Value.bool false)) rfl ?_)
       iterate 2 refine Rg_opx rfl (asB_ne rfl rfl) rfl ?_
       refine Rg_op rfl (op_pick_f (v := (Value.bool false)) rfl rfl ?_)
       refine Rg_op rfl (op_move (v := (Value.bool false)) rfl ?_)
       iterate 3 refine Rg_opx rfl (asB_ne rfl rfl) rfl ?_
       refine Rg_op rfl (op_pick_f (v := (Value.bool false)) rfl rfl ?_)
       refine Rg_op rfl (op_move (v := (Value.bool false)) rfl ?_)
       iterate 2 refine Rg_opx rfl (asB_ne rfl rfl) rfl ?_
       refine Rg_op rfl (op_pick_f (v := (Value.bool false)) rfl rfl ?_)
       refine Rg_op rfl (op_move (v := (Value.bool false)) rfl ?_)
       iterate 4 refine Rg_opx rfl (asB_ne rfl rfl) rfl ?_
       refine Rg_op rfl (op_pick_f (v := (Value.bool false)) rfl rfl ?_)
       refine Rg_op rfl (op_move (v := (Value.bool false)) rfl ?_)
       iterate 6 refine Rg_opx rfl (asB_ne rfl rfl) rfl ?_
       refine Rg_op rfl (op_pick_f (v := (Value.bool false)) rfl rfl ?_)
       refine Rg_op rfl (op_move (v := (Value.bool false)) rfl ?_)
       iterate 2 refine Rg_opx rfl (asB_ne rfl rfl) rfl ?_
       refine Rg_op rfl (op_pick_f (v := (Value.bool false)) rfl rfl ?_)
       refine Rg_op rfl (op_move (v := (Value.bool false)) rfl ?_)
       iterate 3 refine Rg_opx rfl (asB_ne rfl rfl) rfl ?_
       refine Rg_op rfl (op_pick_f (v := (Value.bool false)) rfl rfl ?_)
       refine Rg_op rfl (op_assign (v := (Value.bool false)) rfl ?_)
       refine Rg_nil ?_
       exact hK283 _ _ ⟨false, _, rfl, ⟨(by repeat (first | with_reducible exact Out.refl _ _ | refine Out.upd ?_ rfl | refine Out.updL ?_ rfl | refine Out.mix' ?_ rfl | exact Out.refl _ _)), rfl, rfl, trivial⟩, ch289, hs299, hm⟩
     ·
      replace hm := bif_f hm hg302
      iterate 2 refine Rg_opx rfl (asB_ne rfl rfl) rfl ?_
      refine Rg_op rfl (op_pick_f (v := (Value.bool false)) rfl rfl ?_)
      refine Rg_op rfl (op_move (v := (Value.bool false)) rfl ?_)
      iterate 2 refine Rg_opx rfl (asB_ne rfl rfl) rfl ?_
      refine Rg_op rfl (op_pick_f (v := (Value.bool false)) rfl rfl ?_)
      refine Rg_op rfl (op_move (v := (Value.bool false)) rfl ?_)
      iterate 2 refine Rg_opx rfl (asB_ne rfl rfl) rfl ?_
      refine Rg_op rfl (op_pick_f (v := (Value.bool false)) rfl rfl ?_)
      refine Rg_op rfl (op_move (v := (Value.bool false)) rfl ?_)
      iterate 3 refine Rg_opx rfl (asB_ne rfl rfl) rfl ?_
      refine Rg_op rfl (op_pick_f (v := (Value.bool false)) rfl rfl ?_)
      refine Rg_op rfl (op_move (v := (Value.bool false)) rfl ?_)
      iterate 2 refine Rg_opx rfl (asB_ne rfl rfl) rfl ?_
      refine Rg_op rfl (op_pick_f (v := (Value.bool false)) rfl rfl ?_)
      refine Rg_op rfl (op_move (v := (Value.bool false)) rfl ?_)
      iterate 4 refine Rg_opx rfl (asB_ne rfl rfl) rfl ?_
      refine Rg_op rfl (op_pick_f (v := (Value.bool false)) rfl rfl ?_)
      refine Rg_op rfl (op_move (v := (Value.bool false)) rfl ?_)
      iterate 6 refine Rg_opx rfl (asB_ne rfl rfl) rfl ?_
      refine Rg_op rfl (op_pick_f (v := (Value.bool false)) rfl rfl ?_)
      refine Rg_op rfl (op_move (v := (Value.bool false)) rfl ?_)
      iterate 2 refine Rg_opx rfl (asB_ne rfl rfl) rfl ?_
      refine Rg_op rfl (op_pick_f (v := (Value.bool false)) rfl rfl ?_)
      refine Rg_op rfl (op_move (v := (Value.bool false)) rfl ?_)
      iterate 3 refine Rg_opx rfl (asB_ne rfl rfl) rfl ?_
      refine Rg_op rfl (op_pick_f (v := (Value.bool false)) rfl rfl ?_)
      refine Rg_op rfl (op_assign (v := (Value.bool false)) rfl ?_)
      refine Rg_nil ?_
      exact hK283 _ _ ⟨false, _, rfl, ⟨(by repeat (first | with_reducible exact Out.refl _ _ | refine Out.upd ?_ rfl | refine Out.updL ?_ rfl | refine Out.mix' ?_ rfl | exact Out.refl _ _)), rfl, rfl, trivial⟩, ch289, hs299, hm⟩
    ·
     replace hm := bif_f hm hg293
     iterate 3 refine Rg_opx rfl (asB_ne rfl rfl) rfl ?_
     refine Rg_op rfl (op_pick_f (v := (Value.bool false)) rfl rfl ?_)
     refine Rg_op rfl (op_move (v := (Value.bool false)) rfl ?_)
     iterate 2 refine Rg_opx rfl (asB_ne rfl rfl) rfl ?_
     refine Rg_op rfl (op_pick_f (v := (Value.bool false)) rfl rfl ?_)
     refine Rg_op rfl (op_move (v := (Value.bool false)) rfl ?_)
     iterate 2 refine Rg_opx rfl (asB_ne rfl rfl) rfl ?_
     refine Rg_op rfl (op_pick_f (v := (Value.bool false)) rfl rfl ?_)
     refine Rg_op rfl (op_move (v := (Value.bool false)) rfl ?_)
     iterate 2 refine Rg_opx rfl (asB_ne rfl rfl) rfl ?_
     refine Rg_op rfl (op_pick_f (v := (Value.bool false)) rfl rfl ?_)
     refine Rg_op rfl (op_move (v := (Value.bool false)) rfl ?_)
     iterate 3 refine Rg_opx rfl (asB_ne rfl rfl) rfl ?_
     refine Rg_op rfl (op_pick_f (v := (Value.bool false)) rfl rfl ?_)
     refine Rg_op rfl (op_move (v := (Value.bool false)) rfl ?_)
     iterate 2 refine Rg_opx rfl (asB_ne rfl rfl) rfl ?_
     refine Rg_op rfl (op_pick_f (v := (Value.bool false)) rfl rfl ?_)
     refine Rg_op rfl (op_move (v := (Value.bool false)) rfl ?_)
     iterate 4 refine Rg_opx rfl (asB_ne rfl rfl) rfl ?_
     refine Rg_op rfl (op_pick_f (v := (Value.bool false)) rfl rfl ?_)
     refine Rg_op rfl (op_move (v := (Value.bool false)) rfl ?_)
     iterate 6 refine Rg_opx rfl (asB_ne rfl rfl) rfl ?_
     refine Rg_op rfl (op_pick_f (v := (Value.bool false)) rfl rfl ?_)
     refine Rg_op rfl (op_move (v := (Value.bool false)) rfl ?_)
     iterate 2 refine Rg_opx rfl (asB_ne rfl rfl) rfl ?_
     refine Rg_op rfl (op_pick_f (v := (Value.bool false)) rfl rfl ?_)
     refine Rg_op rfl (op_move (v := (Value.bool false)) rfl ?_)
     iterate 3 refine Rg_opx rfl (asB_ne rfl rfl) rfl ?_
     refine Rg_op rfl (op_pick_f (v := (Value.bool false)) rfl rfl ?_)
     refine Rg_op rfl (op_assign (v := (Value.bool false)) rfl ?_)
     refine Rg_nil ?_
     exact hK283 _ _ ⟨false, _, rfl, ⟨(by repeat (first | with_reducible exact Out.refl _ _ | refine Out.upd ?_ rfl | refine Out.updL ?_ rfl | refine Out.mix' ?_ rfl | exact Out.refl _ _)), rfl, rfl, trivial⟩, ch289, hs278, hm⟩
   ·
    replace hm := bif_f hm hg291
    iterate 4 refine Rg_opx rfl (asB_ne rfl rfl) rfl ?_
    refine Rg_op rfl (op_pick_f (v := (Value.bool false)) rfl rfl ?_)
    refine Rg_op rfl (op_move (v := (Value.bool false)) rfl ?_)
    iterate 3 refine Rg_opx rfl (asB_ne rfl rfl) rfl ?_
    refine Rg_op rfl (op_pick_f (v := (Value.bool false)) rfl rfl ?_)
    refine Rg_op rfl (op_move (v := (Value.bool false)) rfl ?_)
    iterate 2 refine Rg_opx rfl (asB_ne rfl rfl) rfl ?_
    refine Rg_op rfl (op_pick_f (v := (Value.bool false)) rfl rfl ?_)
    refine Rg_op rfl (op_move (v := (Value.bool false)) rfl ?_)
    iterate 2 refine Rg_opx rfl (asB_ne rfl rfl) rfl ?_
    refine Rg_op rfl (op_pick_f (v := (Value.bool false)) rfl rfl ?_)
    refine Rg_op rfl (op_move (v := (Value.bool false)) rfl ?_)
    iterate 2 refine Rg_opx rfl (asB_ne rfl rfl) rfl ?_
    refine Rg_op rfl (op_pick_f (v := (Value.bool false)) rfl rfl ?_)
    refine Rg_op rfl (op_move (v := (Value.bool false)) rfl ?_)
    iterate 3 refine Rg_opx rfl (asB_ne rfl rfl) rfl ?_
    refine Rg_op rfl (op_pick_f (v := (Value.bool false)) rfl rfl ?_)
    refine Rg_op rfl (op_move (v := (Value.bool false)) rfl ?_)
    iterate 2 refine Rg_opx rfl (asB_ne rfl rfl) rfl ?_
    refine Rg_op rfl (op_pick_f (v := (Value.bool false)) rfl rfl ?_)
    refine Rg_op rfl (op_move (v := (Value.bool false)) rfl ?_)
    iterate 4 refine Rg_opx rfl (asB_ne rfl rfl) rfl ?_
    refine Rg_op rfl (op_pick_f (v := (Value.bool false)) rfl rfl ?_)
    refine Rg_op rfl (op_move (v := (Value.bool false)) rfl ?_)
    iterate 6 refine Rg_opx rfl (asB_ne rfl rfl) rfl ?_
    refine Rg_op rfl (op_pick_f (v := (Value.bool false)) rfl rfl ?_)
    refine Rg_op rfl (op_move (v := (Value.bool false)) rfl ?_)
    iterate 2 refine Rg_opx rfl (asB_ne rfl rfl) rfl ?_
    refine Rg_op rfl (op_pick_f (v := (Value.bool false)) rfl rfl ?_)
    refine Rg_op rfl (op_move (v := (Value.bool false)) rfl ?_)
    iterate 3 refine Rg_opx rfl (asB_ne rfl rfl) rfl ?_
    refine Rg_op rfl (op_pick_f (v := (Value.bool false)) rfl rfl ?_)
    refine Rg_op rfl (op_assign (v := (Value.bool false)) rfl ?_)
    refine Rg_nil ?_
    exact hK283 _ _ ⟨false, _, rfl, ⟨(by repeat (first | with_reducible exact Out.refl _ _ | refine Out.upd ?_ rfl | refine Out.updL ?_ rfl | refine Out.mix' ?_ rfl | exact Out.refl _ _)), rfl, rfl, trivial⟩, ch289, hs278, hm⟩
  ·
   replace hm := bif_f hm hg290
   iterate 2 refine Rg_opx rfl (asB_ne rfl rfl) rfl ?_
   refine Rg_op rfl (op_pick_f (v := (Value.bool false)) rfl rfl ?_)
   refine Rg_op rfl (op_move (v := (Value.bool false)) rfl ?_)
   iterate 4 refine Rg_opx rfl (asB_ne rfl rfl) rfl ?_
   refine Rg_op rfl (op_pick_f (v := (Value.bool false)) rfl rfl ?_)
   refine Rg_op rfl (op_move (v := (Value.bool false)) rfl ?_)
   iterate 3 refine Rg_opx rfl (asB_ne rfl rfl) rfl ?_
   refine Rg_op rfl (op_pick_f (v := (Value.bool false)) rfl rfl ?_)
   refine Rg_op rfl (op_move (v := (Value.bool false)) rfl ?_)
   iterate 2 refine Rg_opx rfl (asB_ne rfl rfl) rfl ?_
   refine Rg_op rfl (op_pick_f (v := (Value.bool false)) rfl rfl ?_)
   refine Rg_op rfl (op_move (v := (Value.bool false)) rfl ?_)
   iterate 2 refine Rg_opx rfl (asB_ne rfl rfl) rfl ?_
   refine Rg_op rfl (op_pick_f (v := (Value.bool false)) rfl rfl ?_)
   refine Rg_op rfl (op_move (v := (Value.bool false)) rfl ?_)
   iterate 2 refine Rg_opx rfl (asB_ne rfl rfl) rfl ?_
   refine Rg_op rfl (op_pick_f (v := (Value.bool false)) rfl rfl ?_)
   refine Rg_op rfl (op_move (v := (Value.bool false)) rfl ?_)
   iterate 3 refine Rg_opx rfl (asB_ne rfl rfl) rfl ?_
   refine Rg_op rfl (op_pick_f (v := (Value.bool false)) rfl rfl ?_)
   refine Rg_op rfl (op_move (v := (Value.bool false)) rfl ?_)
   iterate 2 refine Rg_opx rfl (asB_ne rfl rfl) rfl ?_
   refine Rg_op rfl (op_pick_f (v := (Value.bool false)) rfl rfl ?_)
   refine Rg_op rfl (op_move (v := (Value.bool false)) rfl ?_)
   iterate 4 refine Rg_opx rfl (asB_ne rfl rfl) rfl ?_
   refine Rg_op rfl (op_pick_f (v := (Value.bool false)) rfl rfl ?_)
   refine Rg_op rfl (op_move (v := (Value.bool false)) rfl ?_)
   iterate 6 refine Rg_opx rfl (asB_ne rfl rfl) rfl ?_
   refine Rg_op rfl (op_pick_f (v := (Value.bool false)) rfl rfl ?_)
   refine Rg_op rfl (op_move (v := (Value.bool false)) rfl ?_)
   iterate 2 refine Rg_opx rfl (asB_ne rfl rfl) rfl ?_
   refine Rg_op rfl (op_pick_f (v := (Value.bool false)) rfl rfl ?_)
   refine Rg_op rfl (op_move (v := (Value.bool false)) rfl ?_)
   iterate 3 refine Rg_opx rfl (asB_ne rfl rfl) rfl ?_
   refine Rg_op rfl (op_pick_f (v := (Value.bool false)) rfl rfl ?_)
   refine Rg_op rfl (op_assign (v := (Value.bool false)) rfl ?_)
   refine Rg_nil ?_
   exact hK283 _ _ ⟨false, _, rfl, ⟨(by repeat (first | with_reducible exact Out.refl _ _ | refine Out.upd ?_ rfl | refine Out.updL ?_ rfl | refine Out.mix' ?_ rfl | exact Out.refl _ _)), rfl, rfl, trivial⟩, ch289, hs278, hm⟩

end Go.Fx



set_option linter.unusedVariables false
set_option linter.unusedSimpArgs false
set_option maxRecDepth 100000
set_option maxHeartbeats 0
namespace Go.Fx
open Go Go.RowKit Go.Proofs
def m29_overflightlaw45_few_B0 (d : XDisk) (records : List (List UInt8)) (sf10 : Int → Int → Option Bool) (n_1 : Int) (v_1 : Int) : Option Bool :=
 bif (decide (v_1 < (records.length : Int))) then
  ck ((0 : Int) ≤ v_1 ∧ v_1 < (records.length : Int)) <|
  sf10 (IntKind.wrap .i64 (n_1 + (IntKind.wrap .i64 (1 + ((records.getD v_1.toNat default).length : Int))))) (IntKind.wrap .i64 (v_1 + 1))
 else
  bif (decide ((d.sectors.length : Int) ≤ 40)) then
   bif (decide ((d.pending.length : Int) ≤ 40)) then
    some (decide (n_1 ≤ 4000))
   else
    some false
  else
   some false

def m29_overflightlaw45_few (d : XDisk) (records : List (List UInt8)) : Option Bool :=
 loop2 (m29_overflightlaw45_few_B0 d records) (((records.length : Int) - 0).toNat + 1) 0 0

theorem c29_overflightlaw45_few {w : World} {O : List Nat} {d : XDisk} {records : List (List UInt8)} {a_d_sectors : Option Addr} {c_d_sectors : Nat} {a_d_pending : Option Addr} {c_d_pending : Nat} {a_records : Option Addr} {c_records : Nat} (hO : ∀ k ∈ O, k < w.heap.size) (f_d_sectors : SlR (rSl rU8) w O a_d_sectors c_d_sectors d.sectors) (f_d_pending : SlR rXWrite w O a_d_pending c_d_pending d.pending) (r_d_left : InK .i64 d.left) (f_records : SlR (rSl rU8) w O a_records c_records records) {x : Bool} (hm : m29_overflightlaw45_few d records = some x) :
  Ok Try.prog 29 [(Value.agg [(Value.slice a_d_sectors d.sectors.length c_d_sectors), (Value.slice a_d_pending d.pending.length c_d_pending), (Value.int .i64 d.left), (Value.bool d.stopped)].toArray), (Value.slice a_records records.length c_records)] w O vB x := by
 unfold m29_overflightlaw45_few at hm
 refine Fn_of_Wp (n := 34) (xs := [.tmp 4]) Try.func29 rfl Try.ntmps29 Try.results29 rfl ?_
 have hs := St.start hO
 refine Wp_seq ?_
 refine Wp_region ?_
 refine Rg_op rfl (op_box (cs := [(Value.slice a_d_sectors d.sectors.length c_d_sectors), (Value.slice a_d_pending d.pending.length c_d_pending), (Value.int .i64 d.left), (Value.bool d.stopped)]) hs rfl rfl ?_)
 intro b1 w2 _ p3 hs4
 replace f_d_sectors := f_d_sectors.step p3; replace f_d_pending := f_d_pending.step p3; replace f_records := f_records.step p3; clear p3
 refine Rg_op rfl (op_assign (v := (Value.bool false)) rfl ?_)
 refine Rg_nil ?_
 refine Wp_seq ?_
 refine Wp_region ?_
 refine Rg_op rfl (op_assign (v := (Value.int .i64 0)) rfl ?_)
 refine Rg_nil ?_
 refine Wp_seq ?_
 refine Wp_seq ?_
 refine Wp_region ?_
 refine Rg_op rfl (op_move (v := (Value.slice a_records records.length c_records)) rfl ?_)
 refine Rg_op rfl (op_len Try.underlying22 rfl ?_)
 have rl6 := inK_len f_records
 refine Rg_op rfl (op_move (v := (Value.int .i64 0)) rfl ?_)
 refine Rg_nil ?_
 refine Wp_block ?_
 refine Wp_reset [] [(2, (Value.pointer (some ⟨b1, 0, none⟩))), (5, (Value.int .i64 0)), (8, (Value.slice a_records records.length c_records)), (9, (Value.int .i64 (records.length : Int))), (10, (Value.int .i64 0))] rfl ⟨rfl, rfl, rfl, rfl, rfl, trivial⟩ fun ξ9 => ?_
 refine Wp_loopM [5, 7, 10, 11, 12, 13, 14, 15, 16, 17, 18, 19] (fun m fr w' => ∃ (n_1 : Int) (v_1 : Int) (Ebs : Ents), Ebs = [(some b1, Obj.cells [(Value.slice a_d_sectors d.sectors.length c_d_sectors), (Value.slice a_d_pending d.pending.length c_d_pending), (Value.int .i64 d.left), (Value.bool d.stopped)].toArray 25)] ∧ fr [] [(5, (Value.int .i64 n_1)), (10, (Value.int .i64 v_1))] ∧ Step (ks [(some b1, Obj.cells [(Value.slice a_d_sectors d.sectors.length c_d_sectors), (Value.slice a_d_pending d.pending.length c_d_pending), (Value.int .i64 d.left), (Value.bool d.stopped)].toArray 25)] O) w2 (ks Ebs O) w' ∧ St ⟨w, [], []⟩ O w' Ebs ∧ InK .i64 n_1 ∧ InK .i64 v_1 ∧ loop2 (m29_overflightlaw45_few_B0 d records) m n_1 v_1 = some x) (((records.length : Int) - 0).toNat + 1) ⟨0, 0, _, rfl, ⟨Out.refl _ _, rfl, rfl, rfl, trivial⟩, Step.refl _ _, hs4, (show InK .i64 0 from by decide), (show InK .i64 0 from by decide), hm⟩ ?_ ?_
 · rintro _ _ ⟨_, _, _, _, _, _, _, _, _, hm⟩; exact loop2_z hm
 ·
  rintro m13 K12 hK12 ρ18 w14 ⟨n_1, v_1, Ebs, hEbs, hfr17, hst16, hs15, r_y7, r_y8, hm⟩
  obtain ⟨sf10, hsf11, hm⟩ := loop2_s hm; unfold m29_overflightlaw45_few_B0 at hm
  subst hEbs; rw [hfr17.eq]; clear hfr17
  replace f_d_sectors := f_d_sectors.step hst16; replace f_d_pending := f_d_pending.step hst16; replace f_records := f_records.step hst16
  have ch19 := hst16
  refine Wp_seq ?_
  refine Wp_region ?_
  refine Rg_op rfl (op_lss rfl rfl ?_)
  refine Rg_nil ?_
  refine Wp_seq ?_
  refine Wp_cond rfl (fun hc20 => ?_) (fun hc20 => ?_)
  ·
   replace hm := bif_t hm hc20
   refine Wp_skip ?_
   refine Wp_seq ?_
   refine Wp_block ?_
   refine Wp_seq ?_
   refine Wp_region ?_
   replace hm := ck_some hm; obtain ⟨hc21, hm⟩ := hm
   refine Rg_op rfl (op_indexAddr (q := (rSl rU8)) ty22 ty41 rfl rfl f_records rfl hc21.1 hc21.2 ?_)
   intro p22 f23
   refine Rg_op rfl (op_loadP ty41 rfl f23 rfl ?_)
   intro v24 h25
   obtain ⟨a_y26, c_y26, rfl, f_y26⟩ := un_sl h25
   refine Rg_op rfl (op_assign (v := (Value.slice a_y26 (records.getD v_1.toNat default).length c_y26)) rfl ?_)
   refine Rg_nil ?_
   clear f23
   refine Wp_region ?_
   refine Rg_op rfl (op_move (v := (Value.int .i64 n_1)) rfl ?_)
   refine Rg_op rfl (op_move (v := (Value.slice a_y26 (records.getD v_1.toNat default).length c_y26)) rfl ?_)
   refine Rg_op rfl (op_len Try.underlying41 rfl ?_)
   have rl27 := inK_len f_y26
   refine Rg_op rfl (op_addw rfl rfl ?_)
   refine Rg_op rfl (op_addw rfl rfl ?_)
   refine Rg_op rfl (op_assign (v := (Value.int .i64 (IntKind.wrap .i64 (n_1 + (IntKind.wrap .i64 (1 + ((records.getD v_1.toNat default).length : Int))))))) rfl ?_)
   refine Rg_nil ?_
   clear f_y26
   refine Wp_region ?_
   refine Rg_op rfl (op_addw rfl rfl ?_)
   refine Rg_op rfl (op_move (v := (Value.int .i64 (IntKind.wrap .i64 (v_1 + 1)))) rfl ?_)
   refine Rg_nil ?_
   exact hK12 _ _ ⟨(IntKind.wrap .i64 (n_1 + (IntKind.wrap .i64 (1 + ((records.getD v_1.toNat default).length : Int))))), (IntKind.wrap .i64 (v_1 + 1)), _, rfl, ⟨(by repeat (first | with_reducible exact Out.refl _ _ | refine Out.upd ?_ rfl | refine Out.updL ?_ rfl | refine Out.mix' ?_ rfl | exact Out.refl _ _)), rfl, rfl, rfl, trivial⟩, ch19, hs15, (inK_wrap .i64 _), (inK_wrap .i64 _), jnE2 hsf11 hm⟩
  ·
   replace hm := bif_f hm hc20
   refine Wp_exit ?_
   refine Wp_seq ?_
   clear f_records
   refine Wp_region ?_
   refine Rg_op rfl (op_fieldAddr ty25 rfl ty22 (by decide) rfl (rfl : _ = (⟨_, 0, none⟩ : Addr)) ?_)
   refine Rg_op rfl (op_load (cs := [(Value.slice a_d_sectors d.sectors.length c_d_sectors), (Value.slice a_d_pending d.pending.length c_d_pending), (Value.int .i64 d.left), (Value.bool d.stopped)]) (i := 0) ty22 hs15 rfl rfl rfl ?_)
   refine Rg_op rfl (op_len Try.underlying22 rfl ?_)
   have rl28 := inK_len f_d_sectors
   refine Rg_op rfl (op_leq rfl rfl ?_)
   refine Rg_op rfl (op_move (v := (Value.bool (decide ((d.sectors.length : Int) ≤ 40)))) rfl ?_)
   refine Rg_case (fun hg29 => ?_) (fun hg29 => ?_)
   ·
    replace hm := bif_t hm hg29
    refine Rg_opg rfl rfl rfl (op_fieldAddr ty25 rfl ty23 (by decide) rfl (rfl : _ = (⟨_, 1, none⟩ : Addr)) ?_)
    refine Rg_opg rfl rfl rfl (op_load (cs := [(Value.slice a_d_sectors d.sectors.length c_d_sectors), (Value.slice a_d_pending d.pending.length c_d_pending), (Value.int .i64 d.left), (Value.bool d.stopped)]) (i := 0) ty23 hs15 rfl rfl rfl ?_)
    refine Rg_opg rfl rfl rfl (op_len Try.underlying23 rfl ?_)
    have rl30 := inK_len f_d_pending
    refine Rg_opg rfl rfl rfl (op_leq rfl rfl ?_)
    refine Rg_op rfl (op_pick_t (v := (Value.bool (decide ((d.pending.length : Int) ≤ 40)))) rfl rfl ?_)
    refine Rg_op rfl (op_move (v := (Value.bool (decide ((d.pending.length : Int) ≤ 40)))) rfl ?_)
    refine Rg_case (fun hg31 => ?_) (fun hg31 => ?_)
    ·
     replace hm := bif_t hm hg31
     refine Rg_opg rfl rfl rfl (op_move (v := (Value.int .i64 n_1)) rfl ?_)
     refine Rg_opg rfl rfl rfl (op_leq rfl rfl ?_)
     refine Rg_op rfl (op_pick_t (v := (Value.bool (decide (n_1 ≤ 4000)))) rfl rfl ?_)
     refine Rg_op rfl (op_assign (v := (Value.bool (decide (n_1 ≤ 4000)))) rfl ?_)
     refine Rg_nil ?_
     refine Wp_ret ?_
     have hz := step_all hs15
     replace f_d_sectors := f_d_sectors.step hz; replace f_d_pending := f_d_pending.step hz
     refine ⟨_, (show Closes [] _ _ from rfl), [(Value.bool (decide (n_1 ≤ 4000)))], ⟨rfl, trivial⟩, hs15.ext, ?_⟩
     exact Vr.eq (a := vB) (x := (decide (n_1 ≤ 4000))) rfl (Option.some.inj hm)
    ·
     replace hm := bif_f hm hg31
     iterate 2 refine Rg_opx rfl (asB_ne rfl rfl) rfl ?_
     refine Rg_op rfl (op_pick_f (v := (Value.bool false)) rfl rfl ?_)
     refine Rg_op rfl (op_assign (v := (Value.bool false)) rfl ?_)
     refine Rg_nil ?_
     refine Wp_ret ?_
     have hz := step_all hs15
     replace f_d_sectors := f_d_sectors.step hz; replace f_d_pending := f_d_pending.step hz
     refine ⟨_, (show Closes [] _ _ from rfl), [(Value.bool false)], ⟨rfl, trivial⟩, hs15.ext, ?_⟩
     exact Vr.eq (a := vB) (x := false) rfl (Option.some.inj hm)
   ·
    replace hm := bif_f hm hg29
    iterate 4 refine Rg_opx rfl (asB_ne rfl rfl) rfl ?_
    refine Rg_op rfl (op_pick_f (v := (Value.bool false)) rfl rfl ?_)
    refine Rg_op rfl (op_move (v := (Value.bool false)) rfl ?_)
    iterate 2 refine Rg_opx rfl (asB_ne rfl rfl) rfl ?_
    refine Rg_op rfl (op_pick_f (v := (Value.bool false)) rfl rfl ?_)
    refine Rg_op rfl (op_assign (v := (Value.bool false)) rfl ?_)
    refine Rg_nil ?_
    refine Wp_ret ?_
    have hz := step_all hs15
    replace f_d_sectors := f_d_sectors.step hz; replace f_d_pending := f_d_pending.step hz
    refine ⟨_, (show Closes [] _ _ from rfl), [(Value.bool false)], ⟨rfl, trivial⟩, hs15.ext, ?_⟩
    exact Vr.eq (a := vB) (x := false) rfl (Option.some.inj hm)

end Go.Fx



set_option linter.unusedVariables false
set_option linter.unusedSimpArgs false
set_option maxRecDepth 100000
set_option maxHeartbeats 0
namespace Go.Fx
open Go Go.RowKit Go.Proofs
def m37_overflightref45_SameRecords_B0 (a : List (List UInt8)) (b : List (List UInt8)) (sf6 : Int → Option Bool) (i_1 : Int) : Option Bool :=
 bif (decide (i_1 < (a.length : Int))) then
  ck ((0 : Int) ≤ i_1 ∧ i_1 < (a.length : Int)) <|
  ck ((0 : Int) ≤ i_1 ∧ i_1 < (b.length : Int)) <|
  bif (decide ((a.getD i_1.toNat default) ≠ (b.getD i_1.toNat default))) then
   some false
  else
   sf6 (IntKind.wrap .i64 (i_1 + 1))
 else
  some true

def m37_overflightref45_SameRecords (a : List (List UInt8)) (b : List (List UInt8)) : Option Bool :=
 bif (decide ((a.length : Int) ≠ (b.length : Int))) then
  some false
 else
  loop1 (m37_overflightref45_SameRecords_B0 a b) (((a.length : Int) - 0).toNat + 1) 0

theorem c37_overflightref45_SameRecords {w : World} {O : List Nat} {a : List (List UInt8)} {b : List (List UInt8)} {a_a : Option Addr} {c_a : Nat} {a_b : Option Addr} {c_b : Nat} (hO : ∀ k ∈ O, k < w.heap.size) (f_a : SlR (rSl rU8) w O a_a c_a a) (f_b : SlR (rSl rU8) w O a_b c_b b) {x : Bool} (hm : m37_overflightref45_SameRecords a b = some x) :
  Ok Try.prog 37 [(Value.slice a_a a.length c_a), (Value.slice a_b b.length c_b)] w O vB x := by
 unfold m37_overflightref45_SameRecords at hm
 refine Fn_of_Wp (n := 28) (xs := [.tmp 4]) Try.func37 rfl Try.ntmps37 Try.results37 rfl ?_
 have hs := St.start hO
 refine Wp_seq ?_
 refine Wp_region ?_
 refine Rg_op rfl (op_assign (v := (Value.bool false)) rfl ?_)
 refine Rg_nil ?_
 refine Wp_seq ?_
 refine Wp_seq ?_
 refine Wp_region ?_
 refine Rg_op rfl (op_move (v := (Value.slice a_a a.length c_a)) rfl ?_)
 refine Rg_op rfl (op_len Try.underlying22 rfl ?_)
 have rl1 := inK_len f_a
 refine Rg_op rfl (op_move (v := (Value.slice a_b b.length c_b)) rfl ?_)
 refine Rg_op rfl (op_len Try.underlying22 rfl ?_)
 have rl2 := inK_len f_b
 refine Rg_op rfl (op_neq rfl rfl ?_)
 refine Rg_nil ?_
 refine Wp_cond rfl (fun hc3 => ?_) (fun hc3 => ?_)
 ·
  replace hm := bif_t hm hc3
  refine Wp_seq ?_
  clear f_a f_b
  refine Wp_region ?_
  refine Rg_op rfl (op_assign (v := (Value.bool false)) rfl ?_)
  refine Rg_nil ?_
  refine Wp_ret ?_
  have hz := step_all hs
  refine ⟨_, (show Closes [] _ _ from rfl), [(Value.bool false)], ⟨rfl, trivial⟩, hs.ext, ?_⟩
  exact Vr.eq (a := vB) (x := false) rfl (Option.some.inj hm)
 ·
  replace hm := bif_f hm hc3
  refine Wp_skip ?_
  refine Wp_seq ?_
  refine Wp_seq ?_
  refine Wp_region ?_
  refine Rg_op rfl (op_assign (v := (Value.int .i64 0)) rfl ?_)
  refine Rg_nil ?_
  refine Wp_block ?_
  refine Wp_reset [] [(0, (Value.slice a_a a.length c_a)), (1, (Value.slice a_b b.length c_b)), (5, (Value.int .i64 0))] rfl ⟨rfl, rfl, rfl, trivial⟩ fun ξ5 => ?_
  refine Wp_loopM [4, 5, 11, 12, 13, 14, 15, 16, 17, 18, 19, 20, 21, 22, 23, 24, 25, 26, 27] (fun m fr w' => ∃ (i_1 : Int) (Ebs : Ents), Ebs = [] ∧ fr [] [(5, (Value.int .i64 i_1))] ∧ Step (ks [] O) w (ks Ebs O) w' ∧ St ⟨w, [], []⟩ O w' Ebs ∧ InK .i64 i_1 ∧ loop1 (m37_overflightref45_SameRecords_B0 a b) m i_1 = some x) (((a.length : Int) - 0).toNat + 1) ⟨0, _, rfl, ⟨Out.refl _ _, rfl, rfl, trivial⟩, Step.refl _ _, hs, (show InK .i64 0 from by decide), hm⟩ ?_ ?_
  · rintro _ _ ⟨_, _, _, _, _, _, _, hm⟩; exact loop1_z hm
  ·
   rintro m9 K8 hK8 ρ14 w10 ⟨i_1, Ebs, hEbs, hfr13, hst12, hs11, r_y4, hm⟩
   obtain ⟨sf6, hsf7, hm⟩ := loop1_s hm; unfold m37_overflightref45_SameRecords_B0 at hm
   subst hEbs; rw [hfr13.eq]; clear hfr13
   replace f_a := f_a.step hst12; replace f_b := f_b.step hst12
   have ch15 := hst12
   refine Wp_seq ?_
   refine Wp_seq ?_
   refine Wp_region ?_
   refine Rg_op rfl (op_move (v := (Value.int .i64 i_1)) rfl ?_)
   refine Rg_op rfl (op_move (v := (Value.slice a_a a.length c_a)) rfl ?_)
   refine Rg_op rfl (op_len Try.underlying22 rfl ?_)
   have rl16 := inK_len f_a
   refine Rg_op rfl (op_lss rfl rfl ?_)
   refine Rg_nil ?_
   refine Wp_cond rfl (fun hc17 => ?_) (fun hc17 => ?_)
   ·
    replace hm := bif_t hm hc17
    refine Wp_skip ?_
    refine Wp_seq ?_
    refine Wp_block ?_
    refine Wp_seq ?_
    refine Wp_drawR (g0 := []) (m := 10) (fl := []) (TS_inv hs11) rfl (.inl rfl) rfl (by decide +kernel) ?_  -- 6
    refine Dw_eq (Value.slice a_a a.length c_a) (fun ρ18 w19 g hle hi ht => ?_) ?_
    ·
     obtain ⟨-, hst, -⟩ := hle
     refine StepOp_plain (op_move (v := (Value.slice a_a a.length c_a)) (ht 0 rfl) ?_)
     exact Goes.same hi rfl
    refine Dw_eq (Value.int .i64 i_1) (fun ρ21 w22 g hle hi ht => ?_) ?_
    ·
     obtain ⟨-, hst, -⟩ := hle
     refine StepOp_plain (op_move (v := (Value.int .i64 i_1)) (ht 5 rfl) ?_)
     exact Goes.same hi rfl
    replace hm := ck_some hm; obtain ⟨hc27, hm⟩ := hm
    refine Dw_op (VP O [] (rSl rU8) (a.getD i_1.toNat default)) (VP.stab _ _) (fun ρ24 w25 g hle hi ht => ?_) ?_
    ·
     obtain ⟨-, hst, -⟩ := hle
     replace f_a := f_a.step hst
     refine StepOp_plain (op_indexAddr (q := (rSl rU8)) ty22 ty41 (ht 17 rfl) (ht 18 rfl) f_a rfl hc27.1 hc27.2 ?_)
     intro p28 f29
     exact Goes.same hi ⟨_, rfl, f29⟩
    refine Dw_op (VD O [] (vC (rSl rU8)) (a.getD i_1.toNat default)) (VD.stab _ _) (fun ρ30 w31 g hle hi ht => ?_) ?_
    ·
     obtain ⟨-, hst, -⟩ := hle
     obtain ⟨p33, q34, f35⟩ := ht 19 rfl
     refine StepOp_plain (op_loadP ty41 q34 f35 rfl ?_)
     intro v36 h37
     obtain ⟨a_y38, c_y38, rfl, f_y38⟩ := un_sl h37
     exact Goes.same hi (show Vr.vd (vC (rSl rU8)) _ _ _ _ from (mkC (mk_sl f_y38)))
    refine Dw_eq (Value.string (bs (a.getD i_1.toNat default))) (fun ρ39 w40 g hle hi ht => ?_) ?_
    ·
     obtain ⟨-, hst, -⟩ := hle
     have h42 : Vr.vd (vC (rSl rU8)) _ _ _ _ := ht 20 rfl
     obtain ⟨a_y44, c_y44, q43, f_y44⟩ := un_sl h42
     refine StepOp_plain (op_bytesToString ty41 Try.underlying5 Try.underlying9 q43 f_y44 ?_)
     exact Goes.same hi rfl
    refine Dw_eq (Value.slice a_b b.length c_b) (fun ρ45 w46 g hle hi ht => ?_) ?_
    ·
     obtain ⟨-, hst, -⟩ := hle
     refine StepOp_plain (op_move (v := (Value.slice a_b b.length c_b)) (ht 1 rfl) ?_)
     exact Goes.same hi rfl
    refine Dw_eq (Value.int .i64 i_1) (fun ρ48 w49 g hle hi ht => ?_) ?_
    ·
     obtain ⟨-, hst, -⟩ := hle
     refine StepOp_plain (op_move (v := (Value.int .i64 i_1)) (ht 5 rfl) ?_)
     exact Goes.same hi rfl
    replace hm := ck_some hm; obtain ⟨hc54, hm⟩ := hm
    refine Dw_op (VP O [] (rSl rU8) (b.getD i_1.toNat default)) (VP.stab _ _) (fun ρ51 w52 g hle hi ht => ?_) ?_
    ·
     obtain ⟨-, hst, -⟩ := hle
     replace f_b := f_b.step hst
     refine StepOp_plain (op_indexAddr (q := (rSl rU8)) ty22 ty41 (ht 22 rfl) (ht 23 rfl) f_b rfl hc54.1 hc54.2 ?_)
     intro p55 f56
     exact Goes.same hi ⟨_, rfl, f56⟩
    refine Dw_op (VD O [] (vC (rSl rU8)) (b.getD i_1.toNat default)) (VD.stab _ _) (fun ρ57 w58 g hle hi ht => ?_) ?_
    ·
     obtain ⟨-, hst, -⟩ := hle
     obtain ⟨p60, q61, f62⟩ := ht 24 rfl
     refine StepOp_plain (op_loadP ty41 q61 f62 rfl ?_)
     intro v63 h64
     obtain ⟨a_y65, c_y65, rfl, f_y65⟩ := un_sl h64
     exact Goes.same hi (show Vr.vd (vC (rSl rU8)) _ _ _ _ from (mkC (mk_sl f_y65)))
    refine Dw_eq (Value.string (bs (b.getD i_1.toNat default))) (fun ρ66 w67 g hle hi ht => ?_) ?_
    ·
     obtain ⟨-, hst, -⟩ := hle
     have h69 : Vr.vd (vC (rSl rU8)) _ _ _ _ := ht 25 rfl
     obtain ⟨a_y71, c_y71, q70, f_y71⟩ := un_sl h69
     refine StepOp_plain (op_bytesToString ty41 Try.underlying5 Try.underlying9 q70 f_y71 ?_)
     exact Goes.same hi rfl
    refine Dw_nil fun w76 g77 hl78 hi79 => ?_
    obtain ⟨-, hst80, -⟩ := hl78
    obtain ⟨hs82, p81⟩ := Step.nx hi79
    rintro _ rfl
    rintro v83 h84
    replace h84 : Vr.vd (vC (rSl rU8)) _ _ _ _ := h84
    obtain ⟨a_y85, c_y85, rfl, f_y85⟩ := un_sl h84
    rintro _ ⟨p86, rfl, f87⟩
    rintro _ rfl
    rintro _ rfl
    rintro _ rfl
    rintro v88 h89
    replace h89 : Vr.vd (vC (rSl rU8)) _ _ _ _ := h89
    obtain ⟨a_y90, c_y90, rfl, f_y90⟩ := un_sl h89
    rintro _ ⟨p91, rfl, f92⟩
    rintro _ rfl
    rintro _ rfl
    have p93 : Step (ks [] O) w10 (ks [] O) w76 := hst80.trans p81
    replace f_y85 := f_y85.step p81; replace f87 := f87.step p81; replace f_y90 := f_y90.step p81; replace f92 := f92.step p81; replace f_a := f_a.step p93; replace f_b := f_b.step p93; replace ch15 := ch15.trans p93; clear p93 hs11
    refine Rg_op rfl (op_neqs (a := (a.getD i_1.toNat default)) (b := (b.getD i_1.toNat default)) rfl rfl ?_)
    refine Rg_nil ?_
    refine Wp_cond rfl (fun hc94 => ?_) (fun hc94 => ?_)
    ·
     replace hm := bif_t hm hc94
     refine Wp_seq ?_
     clear f_a f_b f_y85 f87 f_y90 f92
     refine Wp_region ?_
     refine Rg_op rfl (op_assign (v := (Value.bool false)) rfl ?_)
     refine Rg_nil ?_
     refine Wp_ret ?_
     have hz := step_all hs82
     refine ⟨_, (show Closes [] _ _ from rfl), [(Value.bool false)], ⟨rfl, trivial⟩, hs82.ext, ?_⟩
     exact Vr.eq (a := vB) (x := false) rfl (Option.some.inj hm)
    ·
     replace hm := bif_f hm hc94
     refine Wp_skip ?_
     clear f_y85 f87 f_y90 f92
     refine Wp_region ?_
     refine Rg_op rfl (op_move (v := (Value.int .i64 i_1)) rfl ?_)
     refine Rg_op rfl (op_addw rfl rfl ?_)
     refine Rg_op rfl (op_assign (v := (Value.int .i64 (IntKind.wrap .i64 (i_1 + 1)))) rfl ?_)
     refine Rg_nil ?_
     exact hK8 _ _ ⟨(IntKind.wrap .i64 (i_1 + 1)), _, rfl, ⟨(by repeat (first | with_reducible exact Out.refl _ _ | refine Out.upd ?_ rfl | refine Out.updL ?_ rfl | refine Out.mix' ?_ rfl | exact Out.refl _ _)), rfl, rfl, trivial⟩, ch15, hs82, (inK_wrap .i64 _), jnE1 hsf7 hm⟩
   ·
    replace hm := bif_f hm hc17
    refine Wp_exit ?_
    refine Wp_seq ?_
    clear f_a f_b
    refine Wp_region ?_
    refine Rg_op rfl (op_assign (v := (Value.bool true)) rfl ?_)
    refine Rg_nil ?_
    refine Wp_ret ?_
    have hz := step_all hs11
    refine ⟨_, (show Closes [] _ _ from rfl), [(Value.bool true)], ⟨rfl, trivial⟩, hs11.ext, ?_⟩
    exact Vr.eq (a := vB) (x := true) rfl (Option.some.inj hm)

end Go.Fx


