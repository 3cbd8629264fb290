/- Check, Room and Append of chapter 45 match the specification, for every journal and record. -/
import Derived.Test.YtegomkljijgjjaaApp4
import Derived.Test.YtegomkljijgjjaaRows
import Derived.WalkKit
import Derived.ShutString
set_option linter.unusedVariables false
set_option linter.unusedSimpArgs false
set_option maxRecDepth 100000
set_option maxHeartbeats 0
namespace Go.Fx
open Go Go.RowKit Go.Proofs
def m28_overflightlaw45_sane : Option Bool :=
 (m15_disk_New 1).bind fun new_1 =>
 (m38_journal_Open new_1.1).bind fun open_1 =>
 ck ((0 : Int) ≤ (113 : Int) ∧ (113 : Int) ≤ (113 : Int) ∧ (1 : Int) * 113 ≤ 281474976710656 ∧ (113 : Int) ≤ 281474976710656) <|
 (m30_journal_Append open_1.1 (List.replicate 113 (0 : UInt8))).bind fun append_1 =>
 (m30_journal_Append open_1.1 [97, 98]).bind fun append_2 =>
 (m39_journal_Sync append_2.1 new_1.1).bind fun sync_1 =>
 (m38_journal_Open sync_1.2.1).bind fun open_2 =>
 (m39_journal_Sync append_2.1 sync_1.2.1).bind fun sync_2 =>
 jn (fun (v_1 : Bool) =>
  some v_1)
 (fun k281 =>
  bif (decide (new_1.2 = 0)) then
   bif (decide (open_1.2 = 0)) then
    bif (decide ((open_1.1.records.length : Int) = 0)) then
     (m34_journal_Room open_1.1).bind fun room_1 =>
     bif (decide (room_1 = 112)) then
      bif (decide (append_1.2 = 2)) then
       bif (decide (append_2.2 = 0)) then
        bif (decide (sync_1.2.2 = 0)) then
         bif (decide (sync_1.1.synced = 1)) then
          bif (decide (open_2.2 = 0)) then
           bif (decide ((open_2.1.records.length : Int) = 1)) then
            ck ((0 : Int) ≤ 0 ∧ 0 < (open_2.1.records.length : Int)) <|
            bif (decide ((open_2.1.records.getD 0 default) = [97, 98])) then
             bif (decide (sync_2.2.2 = 450)) then
              (m32_journal_Check (⟨([] : List (List UInt8)), 0, 0⟩ : XJournal)).bind fun check_1 =>
              k281 (decide (check_1 = 1))
             else
              k281 false
            else
             k281 false
           else
            k281 false
          else
           k281 false
         else
          k281 false
        else
         k281 false
       else
        k281 false
      else
       k281 false
     else
      k281 false
    else
     k281 false
   else
    k281 false
  else
   k281 false)

theorem c28_overflightlaw45_sane {w : World} {O : List Nat} (hO : ∀ k ∈ O, k < w.heap.size) {x : Bool} (hm : m28_overflightlaw45_sane = some x) :
  Ok Try.prog 28 [] w O vB x := by
 unfold m28_overflightlaw45_sane at hm
 refine Fn_of_Wp (n := 119) (xs := [.tmp 0]) Try.func28 rfl Try.ntmps28 Try.results28 rfl ?_
 have hs := St.start hO
 refine Wp_seq ?_
 refine Wp_region ?_
 refine Rg_op rfl (op_assign (v := (Value.bool false)) rfl ?_)
 refine Rg_nil ?_
 refine Wp_seq ?_
 refine Wp_region ?_
 replace hm := bd hm; obtain ⟨new_1, hv1, hm⟩ := hm
 refine Rg_op rfl (op_call Try.call15 (c15_disk_New (sectors := 1) hs.ltw (show InK .i64 1 from by decide) hv1) rfl ?_)
 rintro v2 w3 ⟨hx4, h5⟩
 have hs6 := hs.call hx4
 have p7 := Step.ext (O := ks [] O) hx4
 clear hx4
 clear p7
 obtain ⟨v8, v9, rfl, h10, h11⟩ := h5
 obtain ⟨_, rfl, ⟨_, _, rfl, ⟨a_y12_sectors, c_y12_sectors, rfl, f_y12_sectors⟩, ⟨_, _, rfl, ⟨a_y12_pending, c_y12_pending, rfl, f_y12_pending⟩, ⟨_, _, rfl, ⟨rfl, r_y12_left⟩, rfl⟩⟩⟩⟩ := h10
 obtain ⟨rfl, r_y13⟩ := h11
 refine Rg_op rfl (op_move (v := (Value.tuple [(Value.agg [(Value.slice a_y12_sectors new_1.1.sectors.length c_y12_sectors), (Value.slice a_y12_pending new_1.1.pending.length c_y12_pending), (Value.int .i64 new_1.1.left), (Value.bool new_1.1.stopped)].toArray), (Value.int .i64 new_1.2)].toArray)) rfl ?_)
 refine Rg_op rfl (op_extract (v := (Value.agg [(Value.slice a_y12_sectors new_1.1.sectors.length c_y12_sectors), (Value.slice a_y12_pending new_1.1.pending.length c_y12_pending), (Value.int .i64 new_1.1.left), (Value.bool new_1.1.stopped)].toArray)) rfl rfl ?_)
 refine Rg_op rfl (op_extract (v := (Value.int .i64 new_1.2)) rfl rfl ?_)
 refine Rg_op rfl (op_alloc ty25 hs6 ?_)
 intro b14 w15 _ p16 hs17
 replace f_y12_sectors := f_y12_sectors.step p16; replace f_y12_pending := f_y12_pending.step p16; clear p16 hs6
 refine Rg_op_ (op_store (cs := [(Value.slice none 0 0), (Value.slice none 0 0), (Value.int .i64 0), (Value.bool false)]) (vs := [(Value.slice a_y12_sectors new_1.1.sectors.length c_y12_sectors), (Value.slice a_y12_pending new_1.1.pending.length c_y12_pending), (Value.int .i64 new_1.1.left), (Value.bool new_1.1.stopped)]) (cs' := [(Value.slice a_y12_sectors new_1.1.sectors.length c_y12_sectors), (Value.slice a_y12_pending new_1.1.pending.length c_y12_pending), (Value.int .i64 new_1.1.left), (Value.bool new_1.1.stopped)]) (bs' := [(some b14, Obj.cells [(Value.slice a_y12_sectors new_1.1.sectors.length c_y12_sectors), (Value.slice a_y12_pending new_1.1.pending.length c_y12_pending), (Value.int .i64 new_1.1.left), (Value.bool new_1.1.stopped)].toArray 25)]) (i := 0) ty25 hs17 rfl rfl rfl rfl rfl (le_lit rfl) rfl rfl rfl ?_)
 intro w19 p20 hs21
 replace f_y12_sectors := f_y12_sectors.step p20; replace f_y12_pending := f_y12_pending.step p20; clear p20 hs17
 refine Rg_op rfl (op_assign (v := (Value.int .i64 new_1.2)) rfl ?_)
 refine Rg_nil ?_
 refine Wp_seq ?_
 refine Wp_region ?_
 refine Rg_op rfl (op_loadA (cs := [(Value.slice a_y12_sectors new_1.1.sectors.length c_y12_sectors), (Value.slice a_y12_pending new_1.1.pending.length c_y12_pending), (Value.int .i64 new_1.1.left), (Value.bool new_1.1.stopped)]) (vs := [(Value.slice a_y12_sectors new_1.1.sectors.length c_y12_sectors), (Value.slice a_y12_pending new_1.1.pending.length c_y12_pending), (Value.int .i64 new_1.1.left), (Value.bool new_1.1.stopped)]) (i := 0) ty25 hs21 rfl rfl rfl rfl ?_)
 replace hm := bd hm; obtain ⟨open_1, hv22, hm⟩ := hm
 refine Rg_op rfl (op_call Try.call38 (c38_journal_Open (d := new_1.1) hs21.ltw f_y12_sectors f_y12_pending r_y12_left hv22) rfl ?_)
 rintro v23 w24 ⟨hx25, h26⟩
 have hs27 := hs21.call hx25
 have p28 := Step.ext (O := ks [(some b14, Obj.cells [(Value.slice a_y12_sectors new_1.1.sectors.length c_y12_sectors), (Value.slice a_y12_pending new_1.1.pending.length c_y12_pending), (Value.int .i64 new_1.1.left), (Value.bool new_1.1.stopped)].toArray 25)] O) hx25
 clear hx25
 replace f_y12_sectors := f_y12_sectors.step p28; replace f_y12_pending := f_y12_pending.step p28; clear p28 hs21
 obtain ⟨v29, v30, rfl, h31, h32⟩ := h26
 obtain ⟨_, rfl, ⟨_, _, rfl, ⟨a_y33_records, c_y33_records, rfl, f_y33_records⟩, ⟨_, _, rfl, ⟨rfl, r_y33_many⟩, ⟨rfl, r_y33_synced⟩⟩⟩⟩ := h31
 obtain ⟨rfl, r_y34⟩ := h32
 refine Rg_op rfl (op_move (v := (Value.tuple [(Value.agg [(Value.slice a_y33_records open_1.1.records.length c_y33_records), (Value.int .i64 open_1.1.many), (Value.int .i64 open_1.1.synced)].toArray), (Value.int .i64 open_1.2)].toArray)) rfl ?_)
 refine Rg_op rfl (op_extract (v := (Value.agg [(Value.slice a_y33_records open_1.1.records.length c_y33_records), (Value.int .i64 open_1.1.many), (Value.int .i64 open_1.1.synced)].toArray)) rfl rfl ?_)
 refine Rg_op rfl (op_extract (v := (Value.int .i64 open_1.2)) rfl rfl ?_)
 refine Rg_op rfl (op_alloc ty52 hs27 ?_)
 intro b35 w36 _ p37 hs38
 replace f_y12_sectors := f_y12_sectors.step p37; replace f_y12_pending := f_y12_pending.step p37; replace f_y33_records := f_y33_records.step p37; clear p37 hs27
 refine Rg_op_ (op_store (cs := [(Value.slice none 0 0), (Value.int .i64 0), (Value.int .i64 0)]) (vs := [(Value.slice a_y33_records open_1.1.records.length c_y33_records), (Value.int .i64 open_1.1.many), (Value.int .i64 open_1.1.synced)]) (cs' := [(Value.slice a_y33_records open_1.1.records.length c_y33_records), (Value.int .i64 open_1.1.many), (Value.int .i64 open_1.1.synced)]) (bs' := [(some b35, Obj.cells [(Value.slice a_y33_records open_1.1.records.length c_y33_records), (Value.int .i64 open_1.1.many), (Value.int .i64 open_1.1.synced)].toArray 52), (some b14, Obj.cells [(Value.slice a_y12_sectors new_1.1.sectors.length c_y12_sectors), (Value.slice a_y12_pending new_1.1.pending.length c_y12_pending), (Value.int .i64 new_1.1.left), (Value.bool new_1.1.stopped)].toArray 25)]) (i := 0) ty52 hs38 rfl rfl rfl rfl rfl (le_lit rfl) rfl rfl rfl ?_)
 intro w40 p41 hs42
 replace f_y12_sectors := f_y12_sectors.step p41; replace f_y12_pending := f_y12_pending.step p41; replace f_y33_records := f_y33_records.step p41; clear p41 hs38
 refine Rg_op rfl (op_assign (v := (Value.int .i64 open_1.2)) rfl ?_)
 refine Rg_nil ?_
 refine Wp_seq ?_
 refine Wp_drawR (g0 := []) (m := 7) (fl := [5]) (TS_inv hs42) (.inl rfl) rfl (by decide +kernel) ?_  -- 3
 refine Dw_eq (Value.agg [(Value.slice a_y33_records open_1.1.records.length c_y33_records), (Value.int .i64 open_1.1.many), (Value.int .i64 open_1.1.synced)].toArray) (fun ρ43 w44 g hle hi ht => ?_) ?_
 ·
  obtain ⟨-, hst, -⟩ := hle
  have hsn := (Step.nx hi).1
  refine StepOp_plain (op_loadA (cs := [(Value.slice a_y33_records open_1.1.records.length c_y33_records), (Value.int .i64 open_1.1.many), (Value.int .i64 open_1.1.synced)]) (vs := [(Value.slice a_y33_records open_1.1.records.length c_y33_records), (Value.int .i64 open_1.1.many), (Value.int .i64 open_1.1.synced)]) (i := 0) ty52 hsn (ht 3 rfl) rfl rfl rfl ?_)
  exact Goes.same hi rfl
 replace hm := ck_some hm; obtain ⟨hc49, hm⟩ := hm
 refine Dw_op (VD O [(some b35, Obj.cells [(Value.slice a_y33_records open_1.1.records.length c_y33_records), (Value.int .i64 open_1.1.many), (Value.int .i64 open_1.1.synced)].toArray 52), (some b14, Obj.cells [(Value.slice a_y12_sectors new_1.1.sectors.length c_y12_sectors), (Value.slice a_y12_pending new_1.1.pending.length c_y12_pending), (Value.int .i64 new_1.1.left), (Value.bool new_1.1.stopped)].toArray 25)] (vC (rSl rU8)) (List.replicate 113 (0 : UInt8))) (VD.stab _ _) (fun ρ46 w47 g hle hi ht => ?_) ?_
 ·
  obtain ⟨-, hst, -⟩ := hle
  replace f_y12_sectors := f_y12_sectors.step hst; replace f_y12_pending := f_y12_pending.step hst; replace f_y33_records := f_y33_records.step hst
  refine StepOp_plain (op_makeSliceI (q := rU8) (v := (Value.int .u8 0)) (x0 := (0 : UInt8)) ty41 ty5 hi rfl rfl hc49 rfl (fun _ _ => (mk_u8 (show InK .u8 0 from by decide))) ?_)
  intro b50 w51 hx55 p52 hs53 f54
  replace f_y12_sectors := f_y12_sectors.step p52; replace f_y12_pending := f_y12_pending.step p52; replace f_y33_records := f_y33_records.step p52
  obtain ⟨hs57, p58, f59⟩ := Gs.publish (i := 0) hs53 rfl f54
  exact Goes.pub hi hs57 (Step.trans p52 p58) hx55 (show Vr.vd (vC (rSl rU8)) _ _ _ _ from mkC (mk_sl f59))
 replace hm := bd hm; obtain ⟨append_1, hv66, hm⟩ := hm
 refine Dw_op (VD O [(some b35, Obj.cells [(Value.slice a_y33_records open_1.1.records.length c_y33_records), (Value.int .i64 open_1.1.many), (Value.int .i64 open_1.1.synced)].toArray 52), (some b14, Obj.cells [(Value.slice a_y12_sectors new_1.1.sectors.length c_y12_sectors), (Value.slice a_y12_pending new_1.1.pending.length c_y12_pending), (Value.int .i64 new_1.1.left), (Value.bool new_1.1.stopped)].toArray 25)] (vT2 (vA rXJournal) (vI .i64)) append_1) (VD.stab _ _) (fun ρ60 w61 g hle hi ht => ?_) ?_
 ·
  obtain ⟨-, hst, -⟩ := hle
  replace f_y33_records := f_y33_records.step hst
  have h63 : Vr.vd (vC (rSl rU8)) _ _ _ _ := ht 28 rfl
  obtain ⟨a_y65, c_y65, q64, f_y65⟩ := un_sl h63
  refine StepOp_plain (op_call Try.call30 (c30_journal_Append (O := ks (ents g ++ [(some b35, Obj.cells [(Value.slice a_y33_records open_1.1.records.length c_y33_records), (Value.int .i64 open_1.1.many), (Value.int .i64 open_1.1.synced)].toArray 52), (some b14, Obj.cells [(Value.slice a_y12_sectors new_1.1.sectors.length c_y12_sectors), (Value.slice a_y12_pending new_1.1.pending.length c_y12_pending), (Value.int .i64 new_1.1.left), (Value.bool new_1.1.stopped)].toArray 25)]) O) (l := open_1.1) (b := (List.replicate 113 (0 : UInt8))) hi.ltw f_y33_records r_y33_many r_y33_synced f_y65 hv66) (by simp only [List.map, Array.toList, (show ev _ (.tmp 27) = _ from (ht 27 rfl)), (show ev _ (.tmp 28) = _ from q64)] <;> rfl) ?_)
  rintro v67 w68 ⟨hx69, h70⟩
  exact Goes.call hi hx69 h70
 refine Dw_op (VD O [(some b35, Obj.cells [(Value.slice a_y33_records open_1.1.records.length c_y33_records), (Value.int .i64 open_1.1.many), (Value.int .i64 open_1.1.synced)].toArray 52), (some b14, Obj.cells [(Value.slice a_y12_sectors new_1.1.sectors.length c_y12_sectors), (Value.slice a_y12_pending new_1.1.pending.length c_y12_pending), (Value.int .i64 new_1.1.left), (Value.bool new_1.1.stopped)].toArray 25)] (vT2 (vA rXJournal) (vI .i64)) append_1) (VD.stab _ _) (fun ρ72 w73 g hle hi ht => ?_) ?_
 ·
  obtain ⟨-, hst, -⟩ := hle
  have h : Vr.vd (vT2 (vA rXJournal) (vI .i64)) _ _ _ _ := ht 29 rfl
  refine StepOp_plain (op_move rfl (Goes.same hi h))
 refine Dw_op (VD O [(some b35, Obj.cells [(Value.slice a_y33_records open_1.1.records.length c_y33_records), (Value.int .i64 open_1.1.many), (Value.int .i64 open_1.1.synced)].toArray 52), (some b14, Obj.cells [(Value.slice a_y12_sectors new_1.1.sectors.length c_y12_sectors), (Value.slice a_y12_pending new_1.1.pending.length c_y12_pending), (Value.int .i64 new_1.1.left), (Value.bool new_1.1.stopped)].toArray 25)] (vA rXJournal) append_1.1) (VD.stab _ _) (fun ρ83 w84 g hle hi ht => ?_) ?_
 ·
  obtain ⟨-, hst, -⟩ := hle
  have h86 : Vr.vd (vT2 (vA rXJournal) (vI .i64)) _ _ _ _ := ht 26 rfl
  obtain ⟨v88, v89, q87, h90, h91⟩ := h86
  obtain ⟨_, rfl, ⟨_, _, rfl, ⟨a_y92_records, c_y92_records, rfl, f_y92_records⟩, ⟨_, _, rfl, ⟨rfl, r_y92_many⟩, ⟨rfl, r_y92_synced⟩⟩⟩⟩ := h90
  obtain ⟨rfl, r_y93⟩ := h91
  refine StepOp_plain (op_extract (v := (Value.agg [(Value.slice a_y92_records append_1.1.records.length c_y92_records), (Value.int .i64 append_1.1.many), (Value.int .i64 append_1.1.synced)].toArray)) q87 rfl ?_)
  exact Goes.same hi (show Vr.vd (vA rXJournal) _ _ _ _ from (mkA (mkVia (mk_pair (mk_sl f_y92_records) (mk_pair (mk_int r_y92_many) (mk_int r_y92_synced))))))
 refine Dw_op (VD O [(some b35, Obj.cells [(Value.slice a_y33_records open_1.1.records.length c_y33_records), (Value.int .i64 open_1.1.many), (Value.int .i64 open_1.1.synced)].toArray 52), (some b14, Obj.cells [(Value.slice a_y12_sectors new_1.1.sectors.length c_y12_sectors), (Value.slice a_y12_pending new_1.1.pending.length c_y12_pending), (Value.int .i64 new_1.1.left), (Value.bool new_1.1.stopped)].toArray 25)] (vI .i64) append_1.2) (VD.stab _ _) (fun ρ94 w95 g hle hi ht => ?_) ?_
 ·
  obtain ⟨-, hst, -⟩ := hle
  have h97 : Vr.vd (vT2 (vA rXJournal) (vI .i64)) _ _ _ _ := ht 26 rfl
  obtain ⟨v99, v100, q98, h101, h102⟩ := h97
  obtain ⟨_, rfl, ⟨_, _, rfl, ⟨a_y103_records, c_y103_records, rfl, f_y103_records⟩, ⟨_, _, rfl, ⟨rfl, r_y103_many⟩, ⟨rfl, r_y103_synced⟩⟩⟩⟩ := h101
  obtain ⟨rfl, r_y104⟩ := h102
  refine StepOp_plain (op_extract (v := (Value.int .i64 append_1.2)) q98 rfl ?_)
  exact Goes.same hi (show Vr.vd (vI .i64) _ _ _ _ from ⟨rfl, r_y104⟩)
 refine Dw_op (VN 5 (Obj.cells [(Value.slice none 0 0), (Value.int .i64 0), (Value.int .i64 0)].toArray 52)) (VN.stab _ _) (fun ρ105 w106 g hle hi ht => ?_) ?_
 ·
  obtain ⟨-, hst, -⟩ := hle
  refine StepOp_plain (op_alloc ty52 hi ?_)
  intro b108 w109 hx112 p110 hs111; exact Goes.new hi p110 hs111 hx112
 refine Dw_nil fun w117 g118 hl119 hi120 => ?_
 obtain ⟨-, hst121, -⟩ := hl119
 rintro _ ⟨b124, rfl, h125⟩
 rintro v127 h128
 replace h128 : Vr.vd (vI .i64) _ _ _ _ := h128
 obtain ⟨rfl, r_y129⟩ := h128
 rintro v130 h131
 replace h131 : Vr.vd (vA rXJournal) _ _ _ _ := h131
 obtain ⟨_, rfl, ⟨_, _, rfl, ⟨a_y132_records, c_y132_records, rfl, f_y132_records⟩, ⟨_, _, rfl, ⟨rfl, r_y132_many⟩, ⟨rfl, r_y132_synced⟩⟩⟩⟩ := h131
 rintro v133 h134
 replace h134 : Vr.vd (vT2 (vA rXJournal) (vI .i64)) _ _ _ _ := h134
 obtain ⟨v135, v136, rfl, h137, h138⟩ := h134
 obtain ⟨_, rfl, ⟨_, _, rfl, ⟨a_y139_records, c_y139_records, rfl, f_y139_records⟩, ⟨_, _, rfl, ⟨rfl, r_y139_many⟩, ⟨rfl, r_y139_synced⟩⟩⟩⟩ := h137
 obtain ⟨rfl, r_y140⟩ := h138
 rintro v141 h142
 replace h142 : Vr.vd (vT2 (vA rXJournal) (vI .i64)) _ _ _ _ := h142
 obtain ⟨v143, v144, rfl, h145, h146⟩ := h142
 obtain ⟨_, rfl, ⟨_, _, rfl, ⟨a_y147_records, c_y147_records, rfl, f_y147_records⟩, ⟨_, _, rfl, ⟨rfl, r_y147_many⟩, ⟨rfl, r_y147_synced⟩⟩⟩⟩ := h145
 obtain ⟨rfl, r_y148⟩ := h146
 rintro v149 h150
 replace h150 : Vr.vd (vC (rSl rU8)) _ _ _ _ := h150
 obtain ⟨a_y151, c_y151, rfl, f_y151⟩ := un_sl h150
 rintro _ rfl
 obtain ⟨hs123, p122⟩ := Step.nx1 hi120 h125
 have p152 : Step (ks [(some b35, Obj.cells [(Value.slice a_y33_records open_1.1.records.length c_y33_records), (Value.int .i64 open_1.1.many), (Value.int .i64 open_1.1.synced)].toArray 52), (some b14, Obj.cells [(Value.slice a_y12_sectors new_1.1.sectors.length c_y12_sectors), (Value.slice a_y12_pending new_1.1.pending.length c_y12_pending), (Value.int .i64 new_1.1.left), (Value.bool new_1.1.stopped)].toArray 25)] O) w40 (ks [(some b124, Obj.cells [(Value.slice none 0 0), (Value.int .i64 0), (Value.int .i64 0)].toArray 52), (some b35, Obj.cells [(Value.slice a_y33_records open_1.1.records.length c_y33_records), (Value.int .i64 open_1.1.many), (Value.int .i64 open_1.1.synced)].toArray 52), (some b14, Obj.cells [(Value.slice a_y12_sectors new_1.1.sectors.length c_y12_sectors), (Value.slice a_y12_pending new_1.1.pending.length c_y12_pending), (Value.int .i64 new_1.1.left), (Value.bool new_1.1.stopped)].toArray 25)] O) w117 := hst121.trans p122
 replace f_y132_records := f_y132_records.step p122; replace f_y139_records := f_y139_records.step p122; replace f_y147_records := f_y147_records.step p122; replace f_y151 := f_y151.step p122; replace f_y12_sectors := f_y12_sectors.step p152; replace f_y12_pending := f_y12_pending.step p152; replace f_y33_records := f_y33_records.step p152; clear p152 hs42
 refine Rg_op_ (op_store (cs := [(Value.slice none 0 0), (Value.int .i64 0), (Value.int .i64 0)]) (vs := [(Value.slice a_y132_records append_1.1.records.length c_y132_records), (Value.int .i64 append_1.1.many), (Value.int .i64 append_1.1.synced)]) (cs' := [(Value.slice a_y132_records append_1.1.records.length c_y132_records), (Value.int .i64 append_1.1.many), (Value.int .i64 append_1.1.synced)]) (bs' := [(some b124, Obj.cells [(Value.slice a_y132_records append_1.1.records.length c_y132_records), (Value.int .i64 append_1.1.many), (Value.int .i64 append_1.1.synced)].toArray 52), (some b35, Obj.cells [(Value.slice a_y33_records open_1.1.records.length c_y33_records), (Value.int .i64 open_1.1.many), (Value.int .i64 open_1.1.synced)].toArray 52), (some b14, Obj.cells [(Value.slice a_y12_sectors new_1.1.sectors.length c_y12_sectors), (Value.slice a_y12_pending new_1.1.pending.length c_y12_pending), (Value.int .i64 new_1.1.left), (Value.bool new_1.1.stopped)].toArray 25)]) (i := 0) ty52 hs123 rfl rfl rfl rfl rfl (le_lit rfl) rfl rfl rfl ?_)
 intro w153 p154 hs155
 replace f_y12_sectors := f_y12_sectors.step p154; replace f_y12_pending := f_y12_pending.step p154; replace f_y33_records := f_y33_records.step p154; replace f_y132_records := f_y132_records.step p154; replace f_y139_records := f_y139_records.step p154; replace f_y147_records := f_y147_records.step p154; replace f_y151 := f_y151.step p154; clear p154 hs123
 refine Rg_op rfl (op_assign (v := (Value.int .i64 append_1.2)) rfl ?_)
 refine Rg_nil ?_
 refine Wp_seq ?_
 obtain ⟨hs156, p157⟩ := hs155.sub (bs' := [(some b35, Obj.cells [(Value.slice a_y33_records open_1.1.records.length c_y33_records), (Value.int .i64 open_1.1.many), (Value.int .i64 open_1.1.synced)].toArray 52), (some b14, Obj.cells [(Value.slice a_y12_sectors new_1.1.sectors.length c_y12_sectors), (Value.slice a_y12_pending new_1.1.pending.length c_y12_pending), (Value.int .i64 new_1.1.left), (Value.bool new_1.1.stopped)].toArray 25)]) (.cons _ (.cons_cons _ (.cons_cons _ List.Sublist.slnil)))
 clear f_y132_records f_y139_records f_y147_records f_y151
 replace f_y12_sectors := f_y12_sectors.step p157; replace f_y12_pending := f_y12_pending.step p157; replace f_y33_records := f_y33_records.step p157; clear p157 hs155
 refine Wp_region ?_
 refine Rg_op rfl (op_loadA (cs := [(Value.slice a_y33_records open_1.1.records.length c_y33_records), (Value.int .i64 open_1.1.many), (Value.int .i64 open_1.1.synced)]) (vs := [(Value.slice a_y33_records open_1.1.records.length c_y33_records), (Value.int .i64 open_1.1.many), (Value.int .i64 open_1.1.synced)]) (i := 0) ty52 hs156 rfl rfl rfl rfl ?_)
 refine Rg_op rfl (op_buildSlice (cs := [(Value.int .u8 97), (Value.int .u8 98)]) (parts := [(0, .const (.int .u8 97)), (1, .const (.int .u8 98))]) ty41 ty5 hs156 (by decide) rfl ?_)
 intro b158 w159 hx162 p160 hs161
 replace f_y12_sectors := f_y12_sectors.step p160; replace f_y12_pending := f_y12_pending.step p160; replace f_y33_records := f_y33_records.step p160; clear p160 hs156
 refine Rg_op rfl (op_convB (i := 0) (m := 2) (cs := [(Value.int .u8 97), (Value.int .u8 98)]) Try.underlying41 Try.underlying5 hs161 rfl rfl rfl ?_)
 intro w164 p165 hs166
 replace f_y12_sectors := f_y12_sectors.step p165; replace f_y12_pending := f_y12_pending.step p165; replace f_y33_records := f_y33_records.step p165; clear p165 hs161
 obtain ⟨hs168, p169, f167⟩ := St.publish (i := 0) (o := 0) (c := 2) (xs := [97, 98]) hs166 rfl (show Els rU8 _ _ [(Value.int .u8 97), (Value.int .u8 98)] [97, 98] from ⟨_, _, rfl, (mk_u8 (show InK .u8 97 from by decide)), ⟨_, _, rfl, (mk_u8 (show InK .u8 98 from by decide)), Els.nil⟩⟩) (le_lit rfl) (le_lit rfl) (le_lit rfl)
 replace f_y12_sectors := f_y12_sectors.step p169; replace f_y12_pending := f_y12_pending.step p169; replace f_y33_records := f_y33_records.step p169; clear p169 hs166
 replace hm := bd hm; obtain ⟨append_2, hv170, hm⟩ := hm
 refine Rg_op rfl (op_call Try.call30 (c30_journal_Append (l := open_1.1) (b := [97, 98]) hs168.ltw f_y33_records r_y33_many r_y33_synced f167 hv170) rfl ?_)
 rintro v171 w172 ⟨hx173, h174⟩
 have hs175 := hs168.call hx173
 have p176 := Step.ext (O := ks [(some b35, Obj.cells [(Value.slice a_y33_records open_1.1.records.length c_y33_records), (Value.int .i64 open_1.1.many), (Value.int .i64 open_1.1.synced)].toArray 52), (some b14, Obj.cells [(Value.slice a_y12_sectors new_1.1.sectors.length c_y12_sectors), (Value.slice a_y12_pending new_1.1.pending.length c_y12_pending), (Value.int .i64 new_1.1.left), (Value.bool new_1.1.stopped)].toArray 25)] O) hx173
 clear hx173
 replace f_y12_sectors := f_y12_sectors.step p176; replace f_y12_pending := f_y12_pending.step p176; replace f_y33_records := f_y33_records.step p176; replace f167 := f167.step p176; clear p176 hs168
 obtain ⟨v177, v178, rfl, h179, h180⟩ := h174
 obtain ⟨_, rfl, ⟨_, _, rfl, ⟨a_y181_records, c_y181_records, rfl, f_y181_records⟩, ⟨_, _, rfl, ⟨rfl, r_y181_many⟩, ⟨rfl, r_y181_synced⟩⟩⟩⟩ := h179
 obtain ⟨rfl, r_y182⟩ := h180
 refine Rg_op rfl (op_move (v := (Value.tuple [(Value.agg [(Value.slice a_y181_records append_2.1.records.length c_y181_records), (Value.int .i64 append_2.1.many), (Value.int .i64 append_2.1.synced)].toArray), (Value.int .i64 append_2.2)].toArray)) rfl ?_)
 refine Rg_op rfl (op_extract (v := (Value.agg [(Value.slice a_y181_records append_2.1.records.length c_y181_records), (Value.int .i64 append_2.1.many), (Value.int .i64 append_2.1.synced)].toArray)) rfl rfl ?_)
 refine Rg_op rfl (op_extract (v := (Value.int .i64 append_2.2)) rfl rfl ?_)
 refine Rg_op rfl (op_alloc ty52 hs175 ?_)
 intro b183 w184 _ p185 hs186
 replace f_y12_sectors := f_y12_sectors.step p185; replace f_y12_pending := f_y12_pending.step p185; replace f_y33_records := f_y33_records.step p185; replace f167 := f167.step p185; replace f_y181_records := f_y181_records.step p185; clear p185 hs175
 refine Rg_op_ (op_store (cs := [(Value.slice none 0 0), (Value.int .i64 0), (Value.int .i64 0)]) (vs := [(Value.slice a_y181_records append_2.1.records.length c_y181_records), (Value.int .i64 append_2.1.many), (Value.int .i64 append_2.1.synced)]) (cs' := [(Value.slice a_y181_records append_2.1.records.length c_y181_records), (Value.int .i64 append_2.1.many), (Value.int .i64 append_2.1.synced)]) (bs' := [(some b183, Obj.cells [(Value.slice a_y181_records append_2.1.records.length c_y181_records), (Value.int .i64 append_2.1.many), (Value.int .i64 append_2.1.synced)].toArray 52), (some b35, Obj.cells [(Value.slice a_y33_records open_1.1.records.length c_y33_records), (Value.int .i64 open_1.1.many), (Value.int .i64 open_1.1.synced)].toArray 52), (some b14, Obj.cells [(Value.slice a_y12_sectors new_1.1.sectors.length c_y12_sectors), (Value.slice a_y12_pending new_1.1.pending.length c_y12_pending), (Value.int .i64 new_1.1.left), (Value.bool new_1.1.stopped)].toArray 25)]) (i := 0) ty52 hs186 rfl rfl rfl rfl rfl (le_lit rfl) rfl rfl rfl ?_)
 intro w188 p189 hs190
 replace f_y12_sectors := f_y12_sectors.step p189; replace f_y12_pending := f_y12_pending.step p189; replace f_y33_records := f_y33_records.step p189; replace f167 := f167.step p189; replace f_y181_records := f_y181_records.step p189; clear p189 hs186
 refine Rg_op rfl (op_assign (v := (Value.int .i64 append_2.2)) rfl ?_)
 refine Rg_nil ?_
 refine Wp_seq ?_
 clear f167
 refine Wp_reset [] [(1, (Value.pointer (some ⟨b14, 0, none⟩))), (2, (Value.int .i64 new_1.2)), (3, (Value.pointer (some ⟨b35, 0, none⟩))), (4, (Value.int .i64 open_1.2)), (6, (Value.int .i64 append_1.2)), (7, (Value.pointer (some ⟨b183, 0, none⟩))), (8, (Value.int .i64 append_2.2))] rfl ⟨rfl, rfl, rfl, rfl, rfl, rfl, rfl, trivial⟩ fun ξ191 => ?_
 refine Wp_region ?_
 refine Rg_op rfl (op_loadA (cs := [(Value.slice a_y181_records append_2.1.records.length c_y181_records), (Value.int .i64 append_2.1.many), (Value.int .i64 append_2.1.synced)]) (vs := [(Value.slice a_y181_records append_2.1.records.length c_y181_records), (Value.int .i64 append_2.1.many), (Value.int .i64 append_2.1.synced)]) (i := 0) ty52 hs190 rfl rfl rfl rfl ?_)
 refine Rg_op rfl (op_loadA (cs := [(Value.slice a_y12_sectors new_1.1.sectors.length c_y12_sectors), (Value.slice a_y12_pending new_1.1.pending.length c_y12_pending), (Value.int .i64 new_1.1.left), (Value.bool new_1.1.stopped)]) (vs := [(Value.slice a_y12_sectors new_1.1.sectors.length c_y12_sectors), (Value.slice a_y12_pending new_1.1.pending.length c_y12_pending), (Value.int .i64 new_1.1.left), (Value.bool new_1.1.stopped)]) (i := 2) ty25 hs190 rfl rfl rfl rfl ?_)
 replace hm := bd hm; obtain ⟨sync_1, hv192, hm⟩ := hm
 refine Rg_op rfl (op_call Try.call39 (c39_journal_Sync (l := append_2.1) (d := new_1.1) hs190.ltw f_y181_records r_y181_many r_y181_synced f_y12_sectors f_y12_pending r_y12_left hv192) rfl ?_)
 rintro v193 w194 ⟨hx195, h196⟩
 have hs197 := hs190.call hx195
 have p198 := Step.ext (O := ks [(some b183, Obj.cells [(Value.slice a_y181_records append_2.1.records.length c_y181_records), (Value.int .i64 append_2.1.many), (Value.int .i64 append_2.1.synced)].toArray 52), (some b35, Obj.cells [(Value.slice a_y33_records open_1.1.records.length c_y33_records), (Value.int .i64 open_1.1.many), (Value.int .i64 open_1.1.synced)].toArray 52), (some b14, Obj.cells [(Value.slice a_y12_sectors new_1.1.sectors.length c_y12_sectors), (Value.slice a_y12_pending new_1.1.pending.length c_y12_pending), (Value.int .i64 new_1.1.left), (Value.bool new_1.1.stopped)].toArray 25)] O) hx195
 clear hx195
 replace f_y12_sectors := f_y12_sectors.step p198; replace f_y12_pending := f_y12_pending.step p198; replace f_y33_records := f_y33_records.step p198; replace f_y181_records := f_y181_records.step p198; clear p198 hs190
 obtain ⟨v199, v200, v201, rfl, h202, h203, h204⟩ := h196
 obtain ⟨_, rfl, ⟨_, _, rfl, ⟨a_y205_records, c_y205_records, rfl, f_y205_records⟩, ⟨_, _, rfl, ⟨rfl, r_y205_many⟩, ⟨rfl, r_y205_synced⟩⟩⟩⟩ := h202
 obtain ⟨_, rfl, ⟨_, _, rfl, ⟨a_y206_sectors, c_y206_sectors, rfl, f_y206_sectors⟩, ⟨_, _, rfl, ⟨a_y206_pending, c_y206_pending, rfl, f_y206_pending⟩, ⟨_, _, rfl, ⟨rfl, r_y206_left⟩, rfl⟩⟩⟩⟩ := h203
 obtain ⟨rfl, r_y207⟩ := h204
 refine Rg_op rfl (op_move (v := (Value.tuple [(Value.agg [(Value.slice a_y205_records sync_1.1.records.length c_y205_records), (Value.int .i64 sync_1.1.many), (Value.int .i64 sync_1.1.synced)].toArray), (Value.agg [(Value.slice a_y206_sectors sync_1.2.1.sectors.length c_y206_sectors), (Value.slice a_y206_pending sync_1.2.1.pending.length c_y206_pending), (Value.int .i64 sync_1.2.1.left), (Value.bool sync_1.2.1.stopped)].toArray), (Value.int .i64 sync_1.2.2)].toArray)) rfl ?_)
 refine Rg_op rfl (op_extract (v := (Value.agg [(Value.slice a_y205_records sync_1.1.records.length c_y205_records), (Value.int .i64 sync_1.1.many), (Value.int .i64 sync_1.1.synced)].toArray)) rfl rfl ?_)
 refine Rg_op rfl (op_extract (v := (Value.agg [(Value.slice a_y206_sectors sync_1.2.1.sectors.length c_y206_sectors), (Value.slice a_y206_pending sync_1.2.1.pending.length c_y206_pending), (Value.int .i64 sync_1.2.1.left), (Value.bool sync_1.2.1.stopped)].toArray)) rfl rfl ?_)
 refine Rg_op rfl (op_extract (v := (Value.int .i64 sync_1.2.2)) rfl rfl ?_)
 refine Rg_op rfl (op_alloc ty52 hs197 ?_)
 intro b208 w209 _ p210 hs211
 replace f_y12_sectors := f_y12_sectors.step p210; replace f_y12_pending := f_y12_pending.step p210; replace f_y33_records := f_y33_records.step p210; replace f_y181_records := f_y181_records.step p210; replace f_y205_records := f_y205_records.step p210; replace f_y206_sectors := f_y206_sectors.step p210; replace f_y206_pending := f_y206_pending.step p210; clear p210 hs197
 refine Rg_op rfl (op_alloc ty25 hs211 ?_)
 intro b213 w214 _ p215 hs216
 replace f_y12_sectors := f_y12_sectors.step p215; replace f_y12_pending := f_y12_pending.step p215; replace f_y33_records := f_y33_records.step p215; replace f_y181_records := f_y181_records.step p215; replace f_y205_records := f_y205_records.step p215; replace f_y206_sectors := f_y206_sectors.step p215; replace f_y206_pending := f_y206_pending.step p215; clear p215 hs211
 refine Rg_op_ (op_store (cs := [(Value.slice none 0 0), (Value.int .i64 0), (Value.int .i64 0)]) (vs := [(Value.slice a_y205_records sync_1.1.records.length c_y205_records), (Value.int .i64 sync_1.1.many), (Value.int .i64 sync_1.1.synced)]) (cs' := [(Value.slice a_y205_records sync_1.1.records.length c_y205_records), (Value.int .i64 sync_1.1.many), (Value.int .i64 sync_1.1.synced)]) (bs' := [(some b213, Obj.cells [(Value.slice none 0 0), (Value.slice none 0 0), (Value.int .i64 0), (Value.bool false)].toArray 25), (some b208, Obj.cells [(Value.slice a_y205_records sync_1.1.records.length c_y205_records), (Value.int .i64 sync_1.1.many), (Value.int .i64 sync_1.1.synced)].toArray 52), (some b183, Obj.cells [(Value.slice a_y181_records append_2.1.records.length c_y181_records), (Value.int .i64 append_2.1.many), (Value.int .i64 append_2.1.synced)].toArray 52), (some b35, Obj.cells [(Value.slice a_y33_records open_1.1.records.length c_y33_records), (Value.int .i64 open_1.1.many), (Value.int .i64 open_1.1.synced)].toArray 52), (some b14, Obj.cells [(Value.slice a_y12_sectors new_1.1.sectors.length c_y12_sectors), (Value.slice a_y12_pending new_1.1.pending.length c_y12_pending), (Value.int .i64 new_1.1.left), (Value.bool new_1.1.stopped)].toArray 25)]) (i := 1) ty52 hs216 rfl rfl rfl rfl rfl (le_lit rfl) rfl rfl rfl ?_)
 intro w218 p219 hs220
 replace f_y12_sectors := f_y12_sectors.step p219; replace f_y12_pending := f_y12_pending.step p219; replace f_y33_records := f_y33_records.step p219; replace f_y181_records := f_y181_records.step p219; replace f_y205_records := f_y205_records.step p219; replace f_y206_sectors := f_y206_sectors.step p219; replace f_y206_pending := f_y206_pending.step p219; clear p219 hs216
 refine Rg_op_ (op_store (cs := [(Value.slice none 0 0), (Value.slice none 0 0), (Value.int .i64 0), (Value.bool false)]) (vs := [(Value.slice a_y206_sectors sync_1.2.1.sectors.length c_y206_sectors), (Value.slice a_y206_pending sync_1.2.1.pending.length c_y206_pending), (Value.int .i64 sync_1.2.1.left), (Value.bool sync_1.2.1.stopped)]) (cs' := [(Value.slice a_y206_sectors sync_1.2.1.sectors.length c_y206_sectors), (Value.slice a_y206_pending sync_1.2.1.pending.length c_y206_pending), (Value.int .i64 sync_1.2.1.left), (Value.bool sync_1.2.1.stopped)]) (bs' := [(some b213, Obj.cells [(Value.slice a_y206_sectors sync_1.2.1.sectors.length c_y206_sectors), (Value.slice a_y206_pending sync_1.2.1.pending.length c_y206_pending), (Value.int .i64 sync_1.2.1.left), (Value.bool sync_1.2.1.stopped)].toArray 25), (some b208, Obj.cells [(Value.slice a_y205_records sync_1.1.records.length c_y205_records), (Value.int .i64 sync_1.1.many), (Value.int .i64 sync_1.1.synced)].toArray 52), (some b183, Obj.cells [(Value.slice a_y181_records append_2.1.records.length c_y181_records), (Value.int .i64 append_2.1.many), (Value.int .i64 append_2.1.synced)].toArray 52), (some b35, Obj.cells [(Value.slice a_y33_records open_1.1.records.length c_y33_records), (Value.int .i64 open_1.1.many), (Value.int .i64 open_1.1.synced)].toArray 52), (some b14, Obj.cells [(Value.slice a_y12_sectors new_1.1.sectors.length c_y12_sectors), (Value.slice a_y12_pending new_1.1.pending.length c_y12_pending), (Value.int .i64 new_1.1.left), (Value.bool new_1.1.stopped)].toArray 25)]) (i := 0) ty25 hs220 rfl rfl rfl rfl rfl (le_lit rfl) rfl rfl rfl ?_)
 intro w221 p222 hs223
 replace f_y12_sectors := f_y12_sectors.step p222; replace f_y12_pending := f_y12_pending.step p222; replace f_y33_records := f_y33_records.step p222; replace f_y181_records := f_y181_records.step p222; replace f_y205_records := f_y205_records.step p222; replace f_y206_sectors := f_y206_sectors.step p222; replace f_y206_pending := f_y206_pending.step p222; clear p222 hs220
 refine Rg_op rfl (op_assign (v := (Value.int .i64 sync_1.2.2)) rfl ?_)
 refine Rg_nil ?_
 refine Wp_seq ?_
 obtain ⟨hs224, p225⟩ := hs223.sub (bs' := [(some b213, Obj.cells [(Value.slice a_y206_sectors sync_1.2.1.sectors.length c_y206_sectors), (Value.slice a_y206_pending sync_1.2.1.pending.length c_y206_pending), (Value.int .i64 sync_1.2.1.left), (Value.bool sync_1.2.1.stopped)].toArray 25), (some b208, Obj.cells [(Value.slice a_y205_records sync_1.1.records.length c_y205_records), (Value.int .i64 sync_1.1.many), (Value.int .i64 sync_1.1.synced)].toArray 52), (some b183, Obj.cells [(Value.slice a_y181_records append_2.1.records.length c_y181_records), (Value.int .i64 append_2.1.many), (Value.int .i64 append_2.1.synced)].toArray 52), (some b35, Obj.cells [(Value.slice a_y33_records open_1.1.records.length c_y33_records), (Value.int .i64 open_1.1.many), (Value.int .i64 open_1.1.synced)].toArray 52)]) (.cons_cons _ (.cons_cons _ (.cons_cons _ (.cons_cons _ (.cons _ List.Sublist.slnil)))))
 clear f_y12_sectors f_y12_pending
 replace f_y33_records := f_y33_records.step p225; replace f_y181_records := f_y181_records.step p225; replace f_y205_records := f_y205_records.step p225; replace f_y206_sectors := f_y206_sectors.step p225; replace f_y206_pending := f_y206_pending.step p225; clear p225 hs223
 refine Wp_region ?_
 refine Rg_op rfl (op_loadA (cs := [(Value.slice a_y206_sectors sync_1.2.1.sectors.length c_y206_sectors), (Value.slice a_y206_pending sync_1.2.1.pending.length c_y206_pending), (Value.int .i64 sync_1.2.1.left), (Value.bool sync_1.2.1.stopped)]) (vs := [(Value.slice a_y206_sectors sync_1.2.1.sectors.length c_y206_sectors), (Value.slice a_y206_pending sync_1.2.1.pending.length c_y206_pending), (Value.int .i64 sync_1.2.1.left), (Value.bool sync_1.2.1.stopped)]) (i := 0) ty25 hs224 rfl rfl rfl rfl ?_)
 replace hm := bd hm; obtain ⟨open_2, hv226, hm⟩ := hm
 refine Rg_op rfl (op_call Try.call38 (c38_journal_Open (d := sync_1.2.1) hs224.ltw f_y206_sectors f_y206_pending r_y206_left hv226) rfl ?_)
 rintro v227 w228 ⟨hx229, h230⟩
 have hs231 := hs224.call hx229
 have p232 := Step.ext (O := ks [(some b213, Obj.cells [(Value.slice a_y206_sectors sync_1.2.1.sectors.length c_y206_sectors), (Value.slice a_y206_pending sync_1.2.1.pending.length c_y206_pending), (Value.int .i64 sync_1.2.1.left), (Value.bool sync_1.2.1.stopped)].toArray 25), (some b208, Obj.cells [(Value.slice a_y205_records sync_1.1.records.length c_y205_records), (Value.int .i64 sync_1.1.many), (Value.int .i64 sync_1.1.synced)].toArray 52), (some b183, Obj.cells [(Value.slice a_y181_records append_2.1.records.length c_y181_records), (Value.int .i64 append_2.1.many), (Value.int .i64 append_2.1.synced)].toArray 52), (some b35, Obj.cells [(Value.slice a_y33_records open_1.1.records.length c_y33_records), (Value.int .i64 open_1.1.many), (Value.int .i64 open_1.1.synced)].toArray 52)] O) hx229
 clear hx229
 replace f_y33_records := f_y33_records.step p232; replace f_y181_records := f_y181_records.step p232; replace f_y205_records := f_y205_records.step p232; replace f_y206_sectors := f_y206_sectors.step p232; replace f_y206_pending := f_y206_pending.step p232; clear p232 hs224
 obtain ⟨v233, v234, rfl, h235, h236⟩ := h230
 obtain ⟨_, rfl, ⟨_, _, rfl, ⟨a_y237_records, c_y237_records, rfl, f_y237_records⟩, ⟨_, _, rfl, ⟨rfl, r_y237_many⟩, ⟨rfl, r_y237_synced⟩⟩⟩⟩ := h235
 obtain ⟨rfl, r_y238⟩ := h236
 refine Rg_op rfl (op_move (v := (Value.tuple [(Value.agg [(Value.slice a_y237_records open_2.1.records.length c_y237_records), (Value.int .i64 open_2.1.many), (Value.int .i64 open_2.1.synced)].toArray), (Value.int .i64 open_2.2)].toArray)) rfl ?_)
 refine Rg_op rfl (op_extract (v := (Value.agg [(Value.slice a_y237_records open_2.1.records.length c_y237_records), (Value.int .i64 open_2.1.many), (Value.int .i64 open_2.1.synced)].toArray)) rfl rfl ?_)
 refine Rg_op rfl (op_extract (v := (Value.int .i64 open_2.2)) rfl rfl ?_)
 refine Rg_op rfl (op_alloc ty52 hs231 ?_)
 intro b239 w240 _ p241 hs242
 replace f_y33_records := f_y33_records.step p241; replace f_y181_records := f_y181_records.step p241; replace f_y205_records := f_y205_records.step p241; replace f_y206_sectors := f_y206_sectors.step p241; replace f_y206_pending := f_y206_pending.step p241; replace f_y237_records := f_y237_records.step p241; clear p241 hs231
 refine Rg_op_ (op_store (cs := [(Value.slice none 0 0), (Value.int .i64 0), (Value.int .i64 0)]) (vs := [(Value.slice a_y237_records open_2.1.records.length c_y237_records), (Value.int .i64 open_2.1.many), (Value.int .i64 open_2.1.synced)]) (cs' := [(Value.slice a_y237_records open_2.1.records.length c_y237_records), (Value.int .i64 open_2.1.many), (Value.int .i64 open_2.1.synced)]) (bs' := [(some b239, Obj.cells [(Value.slice a_y237_records open_2.1.records.length c_y237_records), (Value.int .i64 open_2.1.many), (Value.int .i64 open_2.1.synced)].toArray 52), (some b213, Obj.cells [(Value.slice a_y206_sectors sync_1.2.1.sectors.length c_y206_sectors), (Value.slice a_y206_pending sync_1.2.1.pending.length c_y206_pending), (Value.int .i64 sync_1.2.1.left), (Value.bool sync_1.2.1.stopped)].toArray 25), (some b208, Obj.cells [(Value.slice a_y205_records sync_1.1.records.length c_y205_records), (Value.int .i64 sync_1.1.many), (Value.int .i64 sync_1.1.synced)].toArray 52), (some b183, Obj.cells [(Value.slice a_y181_records append_2.1.records.length c_y181_records), (Value.int .i64 append_2.1.many), (Value.int .i64 append_2.1.synced)].toArray 52), (some b35, Obj.cells [(Value.slice a_y33_records open_1.1.records.length c_y33_records), (Value.int .i64 open_1.1.many), (Value.int .i64 open_1.1.synced)].toArray 52)]) (i := 0) ty52 hs242 rfl rfl rfl rfl rfl (le_lit rfl) rfl rfl rfl ?_)
 intro w244 p245 hs246
 replace f_y33_records := f_y33_records.step p245; replace f_y181_records := f_y181_records.step p245; replace f_y205_records := f_y205_records.step p245; replace f_y206_sectors := f_y206_sectors.step p245; replace f_y206_pending := f_y206_pending.step p245; replace f_y237_records := f_y237_records.step p245; clear p245 hs242
 refine Rg_op rfl (op_assign (v := (Value.int .i64 open_2.2)) rfl ?_)
 refine Rg_nil ?_
 refine Wp_seq ?_
 refine Wp_region ?_
 refine Rg_op rfl (op_loadA (cs := [(Value.slice a_y181_records append_2.1.records.length c_y181_records), (Value.int .i64 append_2.1.many), (Value.int .i64 append_2.1.synced)]) (vs := [(Value.slice a_y181_records append_2.1.records.length c_y181_records), (Value.int .i64 append_2.1.many), (Value.int .i64 append_2.1.synced)]) (i := 3) ty52 hs246 rfl rfl rfl rfl ?_)
 refine Rg_op rfl (op_loadA (cs := [(Value.slice a_y206_sectors sync_1.2.1.sectors.length c_y206_sectors), (Value.slice a_y206_pending sync_1.2.1.pending.length c_y206_pending), (Value.int .i64 sync_1.2.1.left), (Value.bool sync_1.2.1.stopped)]) (vs := [(Value.slice a_y206_sectors sync_1.2.1.sectors.length c_y206_sectors), (Value.slice a_y206_pending sync_1.2.1.pending.length c_y206_pending), (Value.int .i64 sync_1.2.1.left), (Value.bool sync_1.2.1.stopped)]) (i := 1) ty25 hs246 rfl rfl rfl rfl ?_)
 replace hm := bd hm; obtain ⟨sync_2, hv247, hm⟩ := hm
 refine Rg_op rfl (op_call Try.call39 (c39_journal_Sync (l := append_2.1) (d := sync_1.2.1) hs246.ltw f_y181_records r_y181_many r_y181_synced f_y206_sectors f_y206_pending r_y206_left hv247) rfl ?_)
 rintro v248 w249 ⟨hx250, h251⟩
 have hs252 := hs246.call hx250
 have p253 := Step.ext (O := ks [(some b239, Obj.cells [(Value.slice a_y237_records open_2.1.records.length c_y237_records), (Value.int .i64 open_2.1.many), (Value.int .i64 open_2.1.synced)].toArray 52), (some b213, Obj.cells [(Value.slice a_y206_sectors sync_1.2.1.sectors.length c_y206_sectors), (Value.slice a_y206_pending sync_1.2.1.pending.length c_y206_pending), (Value.int .i64 sync_1.2.1.left), (Value.bool sync_1.2.1.stopped)].toArray 25), (some b208, Obj.cells [(Value.slice a_y205_records sync_1.1.records.length c_y205_records), (Value.int .i64 sync_1.1.many), (Value.int .i64 sync_1.1.synced)].toArray 52), (some b183, Obj.cells [(Value.slice a_y181_records append_2.1.records.length c_y181_records), (Value.int .i64 append_2.1.many), (Value.int .i64 append_2.1.synced)].toArray 52), (some b35, Obj.cells [(Value.slice a_y33_records open_1.1.records.length c_y33_records), (Value.int .i64 open_1.1.many), (Value.int .i64 open_1.1.synced)].toArray 52)] O) hx250
 clear hx250
 replace f_y33_records := f_y33_records.step p253; replace f_y181_records := f_y181_records.step p253; replace f_y205_records := f_y205_records.step p253; replace f_y206_sectors := f_y206_sectors.step p253; replace f_y206_pending := f_y206_pending.step p253; replace f_y237_records := f_y237_records.step p253; clear p253 hs246
 obtain ⟨v254, v255, v256, rfl, h257, h258, h259⟩ := h251
 obtain ⟨_, rfl, ⟨_, _, rfl, ⟨a_y260_records, c_y260_records, rfl, f_y260_records⟩, ⟨_, _, rfl, ⟨rfl, r_y260_many⟩, ⟨rfl, r_y260_synced⟩⟩⟩⟩ := h257
 obtain ⟨_, rfl, ⟨_, _, rfl, ⟨a_y261_sectors, c_y261_sectors, rfl, f_y261_sectors⟩, ⟨_, _, rfl, ⟨a_y261_pending, c_y261_pending, rfl, f_y261_pending⟩, ⟨_, _, rfl, ⟨rfl, r_y261_left⟩, rfl⟩⟩⟩⟩ := h258
 obtain ⟨rfl, r_y262⟩ := h259
 refine Rg_op rfl (op_move (v := (Value.tuple [(Value.agg [(Value.slice a_y260_records sync_2.1.records.length c_y260_records), (Value.int .i64 sync_2.1.many), (Value.int .i64 sync_2.1.synced)].toArray), (Value.agg [(Value.slice a_y261_sectors sync_2.2.1.sectors.length c_y261_sectors), (Value.slice a_y261_pending sync_2.2.1.pending.length c_y261_pending), (Value.int .i64 sync_2.2.1.left), (Value.bool sync_2.2.1.stopped)].toArray), (Value.int .i64 sync_2.2.2)].toArray)) rfl ?_)
 refine Rg_op rfl (op_extract (v := (Value.agg [(Value.slice a_y260_records sync_2.1.records.length c_y260_records), (Value.int .i64 sync_2.1.many), (Value.int .i64 sync_2.1.synced)].toArray)) rfl rfl ?_)
 refine Rg_op rfl (op_extract (v := (Value.agg [(Value.slice a_y261_sectors sync_2.2.1.sectors.length c_y261_sectors), (Value.slice a_y261_pending sync_2.2.1.pending.length c_y261_pending), (Value.int .i64 sync_2.2.1.left), (Value.bool sync_2.2.1.stopped)].toArray)) rfl rfl ?_)
 refine Rg_op rfl (op_extract (v := (Value.int .i64 sync_2.2.2)) rfl rfl ?_)
 refine Rg_op rfl (op_alloc ty52 hs252 ?_)
 intro b263 w264 _ p265 hs266
 replace f_y33_records := f_y33_records.step p265; replace f_y181_records := f_y181_records.step p265; replace f_y205_records := f_y205_records.step p265; replace f_y206_sectors := f_y206_sectors.step p265; replace f_y206_pending := f_y206_pending.step p265; replace f_y237_records := f_y237_records.step p265; replace f_y260_records := f_y260_records.step p265; replace f_y261_sectors := f_y261_sectors.step p265; replace f_y261_pending := f_y261_pending.step p265; clear p265 hs252
 refine Rg_op rfl (op_alloc ty25 hs266 ?_)
 intro b268 w269 _ p270 hs271
 replace f_y33_records := f_y33_records.step p270; replace f_y181_records := f_y181_records.step p270; replace f_y205_records := f_y205_records.step p270; replace f_y206_sectors := f_y206_sectors.step p270; replace f_y206_pending := f_y206_pending.step p270; replace f_y237_records := f_y237_records.step p270; replace f_y260_records := f_y260_records.step p270; replace f_y261_sectors := f_y261_sectors.step p270; replace f_y261_pending := f_y261_pending.step p270; clear p270 hs266
 refine Rg_op_ (op_store (cs := [(Value.slice none 0 0), (Value.int .i64 0), (Value.int .i64 0)]) (vs := [(Value.slice a_y260_records sync_2.1.records.length c_y260_records), (Value.int .i64 sync_2.1.many), (Value.int .i64 sync_2.1.synced)]) (cs' := [(Value.slice a_y260_records sync_2.1.records.length c_y260_records), (Value.int .i64 sync_2.1.many), (Value.int .i64 sync_2.1.synced)]) (bs' := [(some b268, Obj.cells [(Value.slice none 0 0), (Value.slice none 0 0), (Value.int .i64 0), (Value.bool false)].toArray 25), (some b263, Obj.cells [(Value.slice a_y260_records sync_2.1.records.length c_y260_records), (Value.int .i64 sync_2.1.many), (Value.int .i64 sync_2.1.synced)].toArray 52), (some b239, Obj.cells [(Value.slice a_y237_records open_2.1.records.length c_y237_records), (Value.int .i64 open_2.1.many), (Value.int .i64 open_2.1.synced)].toArray 52), (some b213, Obj.cells [(Value.slice a_y206_sectors sync_1.2.1.sectors.length c_y206_sectors), (Value.slice a_y206_pending sync_1.2.1.pending.length c_y206_pending), (Value.int .i64 sync_1.2.1.left), (Value.bool sync_1.2.1.stopped)].toArray 25), (some b208, Obj.cells [(Value.slice a_y205_records sync_1.1.records.length c_y205_records), (Value.int .i64 sync_1.1.many), (Value.int .i64 sync_1.1.synced)].toArray 52), (some b183, Obj.cells [(Value.slice a_y181_records append_2.1.records.length c_y181_records), (Value.int .i64 append_2.1.many), (Value.int .i64 append_2.1.synced)].toArray 52), (some b35, Obj.cells [(Value.slice a_y33_records open_1.1.records.length c_y33_records), (Value.int .i64 open_1.1.many), (Value.int .i64 open_1.1.synced)].toArray 52)]) (i := 1) ty52 hs271 rfl rfl rfl rfl rfl (le_lit rfl) rfl rfl rfl ?_)
 intro w273 p274 hs275
 replace f_y33_records := f_y33_records.step p274; replace f_y181_records := f_y181_records.step p274; replace f_y205_records := f_y205_records.step p274; replace f_y206_sectors := f_y206_sectors.step p274; replace f_y206_pending := f_y206_pending.step p274; replace f_y237_records := f_y237_records.step p274; replace f_y260_records := f_y260_records.step p274; replace f_y261_sectors := f_y261_sectors.step p274; replace f_y261_pending := f_y261_pending.step p274; clear p274 hs271
 refine Rg_op_ (op_store (cs := [(Value.slice none 0 0), (Value.slice none 0 0), (Value.int .i64 0), (Value.bool false)]) (vs := [(Value.slice a_y261_sectors sync_2.2.1.sectors.length c_y261_sectors), (Value.slice a_y261_pending sync_2.2.1.pending.length c_y261_pending), (Value.int .i64 sync_2.2.1.left), (Value.bool sync_2.2.1.stopped)]) (cs' := [(Value.slice a_y261_sectors sync_2.2.1.sectors.length c_y261_sectors), (Value.slice a_y261_pending sync_2.2.1.pending.length c_y261_pending), (Value.int .i64 sync_2.2.1.left), (Value.bool sync_2.2.1.stopped)]) (bs' := [(some b268, Obj.cells [(Value.slice a_y261_sectors sync_2.2.1.sectors.length c_y261_sectors), (Value.slice a_y261_pending sync_2.2.1.pending.length c_y261_pending), (Value.int .i64 sync_2.2.1.left), (Value.bool sync_2.2.1.stopped)].toArray 25), (some b263, Obj.cells [(Value.slice a_y260_records sync_2.1.records.length c_y260_records), (Value.int .i64 sync_2.1.many), (Value.int .i64 sync_2.1.synced)].toArray 52), (some b239, Obj.cells [(Value.slice a_y237_records open_2.1.records.length c_y237_records), (Value.int .i64 open_2.1.many), (Value.int .i64 open_2.1.synced)].toArray 52), (some b213, Obj.cells [(Value.slice a_y206_sectors sync_1.2.1.sectors.length c_y206_sectors), (Value.slice a_y206_pending sync_1.2.1.pending.length c_y206_pending), (Value.int .i64 sync_1.2.1.left), (Value.bool sync_1.2.1.stopped)].toArray 25), (some b208, Obj.cells [(Value.slice a_y205_records sync_1.1.records.length c_y205_records), (Value.int .i64 sync_1.1.many), (Value.int .i64 sync_1.1.synced)].toArray 52), (some b183, Obj.cells [(Value.slice a_y181_records append_2.1.records.length c_y181_records), (Value.int .i64 append_2.1.many), (Value.int .i64 append_2.1.synced)].toArray 52), (some b35, Obj.cells [(Value.slice a_y33_records open_1.1.records.length c_y33_records), (Value.int .i64 open_1.1.many), (Value.int .i64 open_1.1.synced)].toArray 52)]) (i := 0) ty25 hs275 rfl rfl rfl rfl rfl (le_lit rfl) rfl rfl rfl ?_)
 intro w276 p277 hs278
 replace f_y33_records := f_y33_records.step p277; replace f_y181_records := f_y181_records.step p277; replace f_y205_records := f_y205_records.step p277; replace f_y206_sectors := f_y206_sectors.step p277; replace f_y206_pending := f_y206_pending.step p277; replace f_y237_records := f_y237_records.step p277; replace f_y260_records := f_y260_records.step p277; replace f_y261_sectors := f_y261_sectors.step p277; replace f_y261_pending := f_y261_pending.step p277; clear p277 hs275
 refine Rg_op rfl (op_assign (v := (Value.int .i64 sync_2.2.2)) rfl ?_)
 refine Rg_nil ?_
 refine Wp_reset [] [(2, (Value.int .i64 new_1.2)), (3, (Value.pointer (some ⟨b35, 0, none⟩))), (4, (Value.int .i64 open_1.2)), (6, (Value.int .i64 append_1.2)), (8, (Value.int .i64 append_2.2)), (9, (Value.pointer (some ⟨b208, 0, none⟩))), (11, (Value.int .i64 sync_1.2.2)), (12, (Value.pointer (some ⟨b239, 0, none⟩))), (13, (Value.int .i64 open_2.2)), (16, (Value.int .i64 sync_2.2.2))] rfl ⟨rfl, rfl, rfl, rfl, rfl, rfl, rfl, rfl, rfl, rfl, trivial⟩ fun ξ279 => ?_
 replace hm := jn_elim hm; obtain ⟨k281, hk282, hm⟩ := hm
 refine Wp_seqJ [0, 58, 59, 60, 61, 62, 63, 64, 65, 66, 67, 68, 69, 70, 71, 72, 73, 74, 75, 76, 77, 78, 79, 80, 81, 82, 83, 84, 85, 86, 87, 88, 89, 90, 91, 92, 93, 94, 95, 96, 97, 98, 99, 100, 101, 102, 103, 104, 105, 106, 107, 108, 109, 110, 111, 112, 113, 114, 115, 116, 117, 118] (fun fr w' => ∃ (v_1 : Bool) (Ebs : Ents), Ebs = [(some b268, Obj.cells [(Value.slice a_y261_sectors sync_2.2.1.sectors.length c_y261_sectors), (Value.slice a_y261_pending sync_2.2.1.pending.length c_y261_pending), (Value.int .i64 sync_2.2.1.left), (Value.bool sync_2.2.1.stopped)].toArray 25), (some b263, Obj.cells [(Value.slice a_y260_records sync_2.1.records.length c_y260_records), (Value.int .i64 sync_2.1.many), (Value.int .i64 sync_2.1.synced)].toArray 52), (some b239, Obj.cells [(Value.slice a_y237_records open_2.1.records.length c_y237_records), (Value.int .i64 open_2.1.many), (Value.int .i64 open_2.1.synced)].toArray 52), (some b213, Obj.cells [(Value.slice a_y206_sectors sync_1.2.1.sectors.length c_y206_sectors), (Value.slice a_y206_pending sync_1.2.1.pending.length c_y206_pending), (Value.int .i64 sync_1.2.1.left), (Value.bool sync_1.2.1.stopped)].toArray 25), (some b208, Obj.cells [(Value.slice a_y205_records sync_1.1.records.length c_y205_records), (Value.int .i64 sync_1.1.many), (Value.int .i64 sync_1.1.synced)].toArray 52), (some b183, Obj.cells [(Value.slice a_y181_records append_2.1.records.length c_y181_records), (Value.int .i64 append_2.1.many), (Value.int .i64 append_2.1.synced)].toArray 52), (some b35, Obj.cells [(Value.slice a_y33_records open_1.1.records.length c_y33_records), (Value.int .i64 open_1.1.many), (Value.int .i64 open_1.1.synced)].toArray 52)] ∧ fr [] [(0, (Value.bool v_1))] ∧ Step (ks [(some b268, Obj.cells [(Value.slice a_y261_sectors sync_2.2.1.sectors.length c_y261_sectors), (Value.slice a_y261_pending sync_2.2.1.pending.length c_y261_pending), (Value.int .i64 sync_2.2.1.left), (Value.bool sync_2.2.1.stopped)].toArray 25), (some b263, Obj.cells [(Value.slice a_y260_records sync_2.1.records.length c_y260_records), (Value.int .i64 sync_2.1.many), (Value.int .i64 sync_2.1.synced)].toArray 52), (some b239, Obj.cells [(Value.slice a_y237_records open_2.1.records.length c_y237_records), (Value.int .i64 open_2.1.many), (Value.int .i64 open_2.1.synced)].toArray 52), (some b213, Obj.cells [(Value.slice a_y206_sectors sync_1.2.1.sectors.length c_y206_sectors), (Value.slice a_y206_pending sync_1.2.1.pending.length c_y206_pending), (Value.int .i64 sync_1.2.1.left), (Value.bool sync_1.2.1.stopped)].toArray 25), (some b208, Obj.cells [(Value.slice a_y205_records sync_1.1.records.length c_y205_records), (Value.int .i64 sync_1.1.many), (Value.int .i64 sync_1.1.synced)].toArray 52), (some b183, Obj.cells [(Value.slice a_y181_records append_2.1.records.length c_y181_records), (Value.int .i64 append_2.1.many), (Value.int .i64 append_2.1.synced)].toArray 52), (some b35, Obj.cells [(Value.slice a_y33_records open_1.1.records.length c_y33_records), (Value.int .i64 open_1.1.many), (Value.int .i64 open_1.1.synced)].toArray 52)] O) w276 (ks Ebs O) w' ∧ St ⟨w, [], []⟩ O w' Ebs ∧ k281 v_1 = some x) ?_ ?_
 ·
  rintro ρ288 w284 ⟨v_1, Ebs, hEbs, hfr287, hst286, hs285, hm⟩
  replace hm := jnE1 hk282 hm
  subst hEbs; rw [hfr287.eq]; clear hfr287
  replace f_y33_records := f_y33_records.step hst286; replace f_y181_records := f_y181_records.step hst286; replace f_y205_records := f_y205_records.step hst286; replace f_y206_sectors := f_y206_sectors.step hst286; replace f_y206_pending := f_y206_pending.step hst286; replace f_y237_records := f_y237_records.step hst286; replace f_y260_records := f_y260_records.step hst286; replace f_y261_sectors := f_y261_sectors.step hst286; replace f_y261_pending := f_y261_pending.step hst286; clear hst286 hs278
  refine Wp_ret ?_
  have hz := step_all hs285
  replace f_y33_records := f_y33_records.step hz; replace f_y181_records := f_y181_records.step hz; replace f_y205_records := f_y205_records.step hz; replace f_y206_sectors := f_y206_sectors.step hz; replace f_y206_pending := f_y206_pending.step hz; replace f_y237_records := f_y237_records.step hz; replace f_y260_records := f_y260_records.step hz; replace f_y261_sectors := f_y261_sectors.step hz; replace f_y261_pending := f_y261_pending.step hz
  refine ⟨_, (show Closes [] _ _ from rfl), [(Value.bool v_1)], ⟨rfl, trivial⟩, hs285.ext, ?_⟩
  exact Vr.eq (a := vB) (x := v_1) rfl (Option.some.inj hm)
 ·
  intro K283 hK283
  have ch289 := Step.refl (ks [(some b268, Obj.cells [(Value.slice a_y261_sectors sync_2.2.1.sectors.length c_y261_sectors), (Value.slice a_y261_pending sync_2.2.1.pending.length c_y261_pending), (Value.int .i64 sync_2.2.1.left), (Value.bool sync_2.2.1.stopped)].toArray 25), (some b263, Obj.cells [(Value.slice a_y260_records sync_2.1.records.length c_y260_records), (Value.int .i64 sync_2.1.many), (Value.int .i64 sync_2.1.synced)].toArray 52), (some b239, Obj.cells [(Value.slice a_y237_records open_2.1.records.length c_y237_records), (Value.int .i64 open_2.1.many), (Value.int .i64 open_2.1.synced)].toArray 52), (some b213, Obj.cells [(Value.slice a_y206_sectors sync_1.2.1.sectors.length c_y206_sectors), (Value.slice a_y206_pending sync_1.2.1.pending.length c_y206_pending), (Value.int .i64 sync_1.2.1.left), (Value.bool sync_1.2.1.stopped)].toArray 25), (some b208, Obj.cells [(Value.slice a_y205_records sync_1.1.records.length c_y205_records), (Value.int .i64 sync_1.1.many), (Value.int .i64 sync_1.1.synced)].toArray 52), (some b183, Obj.cells [(Value.slice a_y181_records append_2.1.records.length c_y181_records), (Value.int .i64 append_2.1.many), (Value.int .i64 append_2.1.synced)].toArray 52), (some b35, Obj.cells [(Value.slice a_y33_records open_1.1.records.length c_y33_records), (Value.int .i64 open_1.1.many), (Value.int .i64 open_1.1.synced)].toArray 52)] O) w276
  refine Wp_region ?_
  refine Rg_op rfl (op_move (v := (Value.int .i64 new_1.2)) rfl ?_)
  refine Rg_op rfl (op_eql rfl rfl ?_)
  refine Rg_op rfl (op_move (v := (Value.bool (decide (new_1.2 = 0)))) rfl ?_)
  refine Rg_case (fun hg290 => ?_) (fun hg290 => ?_)
  ·
   replace hm := bif_t hm hg290
   refine Rg_opg rfl rfl rfl (op_move (v := (Value.int .i64 open_1.2)) rfl ?_)
   refine Rg_opg rfl rfl rfl (op_eql rfl rfl ?_)
   refine Rg_op rfl (op_pick_t (v := (Value.bool (decide (open_1.2 = 0)))) rfl rfl ?_)
   refine Rg_op rfl (op_move (v := (Value.bool (decide (open_1.2 = 0)))) rfl ?_)
   refine Rg_case (fun hg291 => ?_) (fun hg291 => ?_)
   ·
    replace hm := bif_t hm hg291
    refine Rg_opg rfl rfl rfl (op_fieldAddr ty52 rfl ty22 (by decide) rfl (rfl : _ = (⟨_, 0, none⟩ : Addr)) ?_)
    refine Rg_opg rfl rfl rfl (op_load (cs := [(Value.slice a_y33_records open_1.1.records.length c_y33_records), (Value.int .i64 open_1.1.many), (Value.int .i64 open_1.1.synced)]) (i := 6) ty22 hs278 rfl rfl rfl ?_)
    refine Rg_opg rfl rfl rfl (op_len Try.underlying22 rfl ?_)
    have rl292 := inK_len f_y33_records
    refine Rg_opg rfl rfl rfl (op_eql rfl rfl ?_)
    refine Rg_op rfl (op_pick_t (v := (Value.bool (decide ((open_1.1.records.length : Int) = 0)))) rfl rfl ?_)
    refine Rg_op rfl (op_move (v := (Value.bool (decide ((open_1.1.records.length : Int) = 0)))) rfl ?_)
    refine Rg_case (fun hg293 => ?_) (fun hg293 => ?_)
    ·
     replace hm := bif_t hm hg293
     refine Rg_opg rfl rfl rfl (op_loadA (cs := [(Value.slice a_y33_records open_1.1.records.length c_y33_records), (Value.int .i64 open_1.1.many), (Value.int .i64 open_1.1.synced)]) (vs := [(Value.slice a_y33_records open_1.1.records.length c_y33_records), (Value.int .i64 open_1.1.many), (Value.int .i64 open_1.1.synced)]) (i := 6) ty52 hs278 rfl rfl rfl rfl ?_)
     replace hm := bd hm; obtain ⟨room_1, hv294, hm⟩ := hm
     refine Rg_opg rfl rfl rfl (op_call Try.call34 (c34_journal_Room (l := open_1.1) hs278.ltw f_y33_records r_y33_many r_y33_synced hv294) rfl ?_)
     rintro v295 w296 ⟨hx297, h298⟩
     have hs299 := hs278.call hx297
     have p300 := Step.ext (O := ks [(some b268, Obj.cells [(Value.slice a_y261_sectors sync_2.2.1.sectors.length c_y261_sectors), (Value.slice a_y261_pending sync_2.2.1.pending.length c_y261_pending), (Value.int .i64 sync_2.2.1.left), (Value.bool sync_2.2.1.stopped)].toArray 25), (some b263, Obj.cells [(Value.slice a_y260_records sync_2.1.records.length c_y260_records), (Value.int .i64 sync_2.1.many), (Value.int .i64 sync_2.1.synced)].toArray 52), (some b239, Obj.cells [(Value.slice a_y237_records open_2.1.records.length c_y237_records), (Value.int .i64 open_2.1.many), (Value.int .i64 open_2.1.synced)].toArray 52), (some b213, Obj.cells [(Value.slice a_y206_sectors sync_1.2.1.sectors.length c_y206_sectors), (Value.slice a_y206_pending sync_1.2.1.pending.length c_y206_pending), (Value.int .i64 sync_1.2.1.left), (Value.bool sync_1.2.1.stopped)].toArray 25), (some b208, Obj.cells [(Value.slice a_y205_records sync_1.1.records.length c_y205_records), (Value.int .i64 sync_1.1.many), (Value.int .i64 sync_1.1.synced)].toArray 52), (some b183, Obj.cells [(Value.slice a_y181_records append_2.1.records.length c_y181_records), (Value.int .i64 append_2.1.many), (Value.int .i64 append_2.1.synced)].toArray 52), (some b35, Obj.cells [(Value.slice a_y33_records open_1.1.records.length c_y33_records), (Value.int .i64 open_1.1.many), (Value.int .i64 open_1.1.synced)].toArray 52)] O) hx297
     clear hx297
     replace f_y33_records := f_y33_records.step p300; replace f_y181_records := f_y181_records.step p300; replace f_y205_records := f_y205_records.step p300; replace f_y206_sectors := f_y206_sectors.step p300; replace f_y206_pending := f_y206_pending.step p300; replace f_y237_records := f_y237_records.step p300; replace f_y260_records := f_y260_records.step p300; replace f_y261_sectors := f_y261_sectors.step p300; replace f_y261_pending := f_y261_pending.step p300; replace ch289 := ch289.trans p300; clear p300 hs278
     obtain ⟨rfl, r_y301⟩ := h298
     refine Rg_opg rfl rfl rfl (op_eql rfl rfl ?_)
     refine Rg_op rfl (op_pick_t (v := (Value.bool (decide (room_1 = 112)))) rfl rfl ?_)
     refine Rg_op rfl (op_move (v := (Value.bool (decide (room_1 = 112)))) rfl ?_)
     refine Rg_case (fun hg302 => ?_) (fun hg302 => ?_)
     ·
      replace hm := bif_t hm hg302
      refine Rg_opg rfl rfl rfl (op_move (v := (Value.int .i64 append_1.2)) rfl ?_)
      refine Rg_opg rfl rfl rfl (op_eql rfl rfl ?_)
      refine Rg_op rfl (op_pick_t (v := (Value.bool (decide (append_1.2 = 2)))) rfl rfl ?_)
      refine Rg_op rfl (op_move (v := (Value.bool (decide (append_1.2 = 2)))) rfl ?_)
      refine Rg_case (fun hg303 => ?_) (fun hg303 => ?_)
      ·
       replace hm := bif_t hm hg303
       refine Rg_opg rfl rfl rfl (op_move (v := (Value.int .i64 append_2.2)) rfl ?_)
       refine Rg_opg rfl rfl rfl (op_eql rfl rfl ?_)
       refine Rg_op rfl (op_pick_t (v := (Value.bool (decide (append_2.2 = 0)))) rfl rfl ?_)
       refine Rg_op rfl (op_move (v := (Value.bool (decide (append_2.2 = 0)))) rfl ?_)
       refine Rg_case (fun hg304 => ?_) (fun hg304 => ?_)
       ·
        replace hm := bif_t hm hg304
        refine Rg_opg rfl rfl rfl (op_move (v := (Value.int .i64 sync_1.2.2)) rfl ?_)
        refine Rg_opg rfl rfl rfl (op_eql rfl rfl ?_)
        refine Rg_op rfl (op_pick_t (v := (Value.bool (decide (sync_1.2.2 = 0)))) rfl rfl ?_)
        refine Rg_op rfl (op_move (v := (Value.bool (decide (sync_1.2.2 = 0)))) rfl ?_)
        refine Rg_case (fun hg305 => ?_) (fun hg305 => ?_)
        ·
         replace hm := bif_t hm hg305
         refine Rg_opg rfl rfl rfl (op_fieldAddr ty52 rfl ty3 (by decide) rfl (rfl : _ = (⟨_, 2, none⟩ : Addr)) ?_)
         refine Rg_opg rfl rfl rfl (op_load (cs := [(Value.slice a_y205_records sync_1.1.records.length c_y205_records), (Value.int .i64 sync_1.1.many), (Value.int .i64 sync_1.1.synced)]) (i := 4) ty3 hs299 rfl rfl rfl ?_)
         refine Rg_opg rfl rfl rfl (op_eql rfl rfl ?_)
         refine Rg_op rfl (op_pick_t (v := (Value.bool (decide (sync_1.1.synced = 1)))) rfl rfl ?_)
         refine Rg_op rfl (op_move (v := (Value.bool (decide (sync_1.1.synced = 1)))) rfl ?_)
         refine Rg_case (fun hg306 => ?_) (fun hg306 => ?_)
         ·
          replace hm := bif_t hm hg306
          refine Rg_opg rfl rfl rfl (op_move (v := (Value.int .i64 open_2.2)) rfl ?_)
          refine Rg_opg rfl rfl rfl (op_eql rfl rfl ?_)
          refine Rg_op rfl (op_pick_t (v := (Value.bool (decide (open_2.2 = 0)))) rfl rfl ?_)
          refine Rg_op rfl (op_move (v := (Value.bool (decide (open_2.2 = 0)))) rfl ?_)
          refine Rg_case (fun hg307 => ?_) (fun hg307 => ?_)
          ·
           replace hm := bif_t hm hg307
           refine Rg_opg rfl rfl rfl (op_fieldAddr ty52 rfl ty22 (by decide) rfl (rfl : _ = (⟨_, 0, none⟩ : Addr)) ?_)
           refine Rg_opg rfl rfl rfl (op_load (cs := [(Value.slice a_y237_records open_2.1.records.length c_y237_records), (Value.int .i64 open_2.1.many), (Value.int .i64 open_2.1.synced)]) (i := 2) ty22 hs299 rfl rfl rfl ?_)
           refine Rg_opg rfl rfl rfl (op_len Try.underlying22 rfl ?_)
           have rl308 := inK_len f_y237_records
           refine Rg_opg rfl rfl rfl (op_eql rfl rfl ?_)
           refine Rg_op rfl (op_pick_t (v := (Value.bool (decide ((open_2.1.records.length : Int) = 1)))) rfl rfl ?_)
           refine Rg_op rfl (op_move (v := (Value.bool (decide ((open_2.1.records.length : Int) = 1)))) rfl ?_)
           refine Rg_case (fun hg309 => ?_) (fun hg309 => ?_)
           ·
            replace hm := bif_t hm hg309
            refine Rg_opg rfl rfl rfl (op_fieldAddr ty52 rfl ty22 (by decide) rfl (rfl : _ = (⟨_, 0, none⟩ : Addr)) ?_)
            refine Rg_opg rfl rfl rfl (op_load (cs := [(Value.slice a_y237_records open_2.1.records.length c_y237_records), (Value.int .i64 open_2.1.many), (Value.int .i64 open_2.1.synced)]) (i := 2) ty22 hs299 rfl rfl rfl ?_)
            replace hm := ck_some hm; obtain ⟨hc310, hm⟩ := hm
            refine Rg_opg rfl rfl rfl (op_indexAddr (q := (rSl rU8)) ty22 ty41 rfl rfl f_y237_records rfl hc310.1 hc310.2 ?_)
            intro p311 f312
            refine Rg_opg rfl rfl rfl (op_loadP ty41 rfl f312 rfl ?_)
            intro v313 h314
            obtain ⟨a_y315, c_y315, rfl, f_y315⟩ := un_sl h314
            refine Rg_opg rfl rfl rfl (op_bytesToString ty41 Try.underlying5 Try.underlying9 rfl f_y315 ?_)
            refine Rg_opg rfl rfl rfl (op_eqs (a := (open_2.1.records.getD 0 default)) (b := [97, 98]) rfl rfl ?_)
            refine Rg_op rfl (op_pick_t (v := (Value.bool (decide ((open_2.1.records.getD 0 default) = [97, 98])))) rfl rfl ?_)
            refine Rg_op rfl (op_move (v := (Value.bool (decide ((open_2.1.records.getD 0 default) = [97, 98])))) rfl ?_)
            refine Rg_case (fun hg316 => ?_) (fun hg316 => ?_)
            ·
             replace hm := bif_t hm hg316
             refine Rg_opg rfl rfl rfl (op_move (v := (Value.int .i64 sync_2.2.2)) rfl ?_)
             refine Rg_opg rfl rfl rfl (op_eql rfl rfl ?_)
             refine Rg_op rfl (op_pick_t (v := (Value.bool (decide (sync_2.2.2 = 450)))) rfl rfl ?_)
             refine Rg_op rfl (op_move (v := (Value.bool (decide (sync_2.2.2 = 450)))) rfl ?_)
             refine Rg_case (fun hg317 => ?_) (fun hg317 => ?_)
             ·
              replace hm := bif_t hm hg317
              refine Rg_opg rfl rfl rfl (op_build (vs := [(Value.slice none 0 0), (Value.int .i64 0), (Value.int .i64 0)]) (parts := []) ty52 pl52 rfl ?_)
              replace hm := bd hm; obtain ⟨check_1, hv318, hm⟩ := hm
              refine Rg_opg rfl rfl rfl (op_call Try.call32 (c32_journal_Check (l := (⟨([] : List (List UInt8)), 0, 0⟩ : XJournal)) hs299.ltw SlR.nil_ (show InK .i64 0 from by decide) (show InK .i64 0 from by decide) hv318) rfl ?_)
              rintro v319 w320 ⟨hx321, h322⟩
              have hs323 := hs299.call hx321
              have p324 := Step.ext (O := ks [(some b268, Obj.cells [(Value.slice a_y261_sectors sync_2.2.1.sectors.length c_y261_sectors), (Value.slice a_y261_pending sync_2.2.1.pending.length c_y261_pending), (Value.int .i64 sync_2.2.1.left), (Value.bool sync_2.2.1.stopped)].toArray 25), (some b263, Obj.cells [(Value.slice a_y260_records sync_2.1.records.length c_y260_records), (Value.int .i64 sync_2.1.many), (Value.int .i64 sync_2.1.synced)].toArray 52), (some b239, Obj.cells [(Value.slice a_y237_records open_2.1.records.length c_y237_records), (Value.int .i64 open_2.1.many), (Value.int .i64 open_2.1.synced)].toArray 52), (some b213, Obj.cells [(Value.slice a_y206_sectors sync_1.2.1.sectors.length c_y206_sectors), (Value.slice a_y206_pending sync_1.2.1.pending.length c_y206_pending), (Value.int .i64 sync_1.2.1.left), (Value.bool sync_1.2.1.stopped)].toArray 25), (some b208, Obj.cells [(Value.slice a_y205_records sync_1.1.records.length c_y205_records), (Value.int .i64 sync_1.1.many), (Value.int .i64 sync_1.1.synced)].toArray 52), (some b183, Obj.cells [(Value.slice a_y181_records append_2.1.records.length c_y181_records), (Value.int .i64 append_2.1.many), (Value.int .i64 append_2.1.synced)].toArray 52), (some b35, Obj.cells [(Value.slice a_y33_records open_1.1.records.length c_y33_records), (Value.int .i64 open_1.1.many), (Value.int .i64 open_1.1.synced)].toArray 52)] O) hx321
              clear hx321
              replace f_y33_records := f_y33_records.step p324; replace f_y181_records := f_y181_records.step p324; replace f_y205_records := f_y205_records.step p324; replace f_y206_sectors := f_y206_sectors.step p324; replace f_y206_pending := f_y206_pending.step p324; replace f_y237_records := f_y237_records.step p324; replace f_y260_records := f_y260_records.step p324; replace f_y261_sectors := f_y261_sectors.step p324; replace f_y261_pending := f_y261_pending.step p324; replace f312 := f312.step p324; replace f_y315 := f_y315.step p324; replace ch289 := ch289.trans p324; clear p324 hs299
              obtain ⟨rfl, r_y325⟩ := h322
              refine Rg_opg rfl rfl rfl (op_eql rfl rfl ?_)
              refine Rg_op rfl (op_pick_t (v := (Value.bool (decide (check_1 = 1)))) rfl rfl ?_)
              refine Rg_op rfl (op_assign (v := (Value.bool (decide (check_1 = 1)))) rfl ?_)
              refine Rg_nil ?_
              exact hK283 _ _ ⟨(decide (check_1 = 1)), _, rfl, ⟨(by repeat (first | with_reducible exact Out.refl _ _ | refine Out.upd ?_ rfl | refine Out.updL ?_ rfl | refine Out.mix' ?_ rfl | exact Out.refl _ _)), rfl, rfl, trivial⟩, ch289, hs323, hm⟩
             ·
              replace hm := bif_f hm hg317
              iterate 3 refine Rg_opx rfl (asB_ne rfl rfl) rfl ?_
              refine Rg_op rfl (op_pick_f (v := (Value.bool false)) rfl rfl ?_)
              refine Rg_op rfl (op_assign (v := (Value.bool false)) rfl ?_)
              refine Rg_nil ?_
              exact hK283 _ _ ⟨false, _, rfl, ⟨(by repeat (first | with_reducible exact Out.refl _ _ | refine Out.upd ?_ rfl | refine Out.updL ?_ rfl | refine Out.mix' ?_ rfl | exact Out.refl _ _)), rfl, rfl, trivial⟩, ch289, hs299, hm⟩
            ·
             replace hm := bif_f hm hg316
             iterate 2 refine Rg_opx rfl (asB_ne rfl rfl) rfl ?_
             refine Rg_op rfl (op_pick_f (v := (Value.bool false)) rfl rfl ?_)
             refine Rg_op rfl (op_move (v := (Value.bool false)) rfl ?_)
             iterate 3 refine Rg_opx rfl (asB_ne rfl rfl) rfl ?_
             refine Rg_op rfl (op_pick_f (v := (Value.bool false)) rfl rfl ?_)
             refine Rg_op rfl (op_assign (v := (Value.bool false)) rfl ?_)
             refine Rg_nil ?_
             exact hK283 _ _ ⟨false, _, rfl, ⟨(by repeat (first | with_reducible exact Out.refl _ _ | refine Out.upd ?_ rfl | refine Out.updL ?_ rfl | refine Out.mix' ?_ rfl | exact Out.refl _ _)), rfl, rfl, trivial⟩, ch289, hs299, hm⟩
           ·
            replace hm := bif_f hm hg309
            iterate 6 refine Rg_opx rfl (asB_ne rfl rfl) rfl ?_
            refine Rg_op rfl (op_pick_f (v := (Value.bool false)) rfl rfl ?_)
            refine Rg_op rfl (op_move (v := (Value.bool false)) rfl ?_)
            iterate 2 refine Rg_opx rfl (asB_ne rfl rfl) rfl ?_
            refine Rg_op rfl (op_pick_f (v := (Value.bool false)) rfl rfl ?_)
            refine Rg_op rfl (op_move (v := (Value.bool false)) rfl ?_)
            iterate 3 refine Rg_opx rfl (asB_ne rfl rfl) rfl ?_
            refine Rg_op rfl (op_pick_f (v := (Value.bool false)) rfl rfl ?_)
            refine Rg_op rfl (op_assign (v := (Value.bool false)) rfl ?_)
            refine Rg_nil ?_
            exact hK283 _ _ ⟨false, _, rfl, ⟨(by repeat (first | with_reducible exact Out.refl _ _ | refine Out.upd ?_ rfl | refine Out.updL ?_ rfl | refine Out.mix' ?_ rfl | exact Out.refl _ _)), rfl, rfl, trivial⟩, ch289, hs299, hm⟩
          ·
           replace hm := bif_f hm hg307
           iterate 4 refine Rg_opx rfl (asB_ne rfl rfl) rfl ?_
           refine Rg_op rfl (op_pick_f (v := (Value.bool false)) rfl rfl ?_)
           refine Rg_op rfl (op_move (v := (Value.bool false)) rfl ?_)
           iterate 6 refine Rg_opx rfl (asB_ne rfl rfl) rfl ?_
           refine Rg_op rfl (op_pick_f (v := (Value.bool false)) rfl rfl ?_)
           refine Rg_op rfl (op_move (v := (Value.bool false)) rfl ?_)
           iterate 2 refine Rg_opx rfl (asB_ne rfl rfl) rfl ?_
           refine Rg_op rfl (op_pick_f (v := (Value.bool false)) rfl rfl ?_)
           refine Rg_op rfl (op_move (v := (Value.bool false)) rfl ?_)
           iterate 3 refine Rg_opx rfl (asB_ne rfl rfl) rfl ?_
           refine Rg_op rfl (op_pick_f (v := (Value.bool false)) rfl rfl ?_)
           refine Rg_op rfl (op_assign (v := (Value.bool false)) rfl ?_)
           refine Rg_nil ?_
           exact hK283 _ _ ⟨false, _, rfl, ⟨(by repeat (first | with_reducible exact Out.refl _ _ | refine Out.upd ?_ rfl | refine Out.updL ?_ rfl | refine Out.mix' ?_ rfl | exact Out.refl _ _)), rfl, rfl, trivial⟩, ch289, hs299, hm⟩
         ·
          replace hm := bif_f hm hg306
          iterate 2 refine Rg_opx rfl (asB_ne rfl rfl) rfl ?_
          refine Rg_op rfl (op_pick_f (v := (Value.bool false)) rfl rfl ?_)
          refine Rg_op rfl (op_move (v := (Value.bool false)) rfl ?_)
          iterate 4 refine Rg_opx rfl (asB_ne rfl rfl) rfl ?_
          refine Rg_op rfl (op_pick_f (v := (Value.bool false)) rfl rfl ?_)
          refine Rg_op rfl (op_move (v := (Value.bool false)) rfl ?_)
          iterate 6 refine Rg_opx rfl (asB_ne rfl rfl) rfl ?_
          refine Rg_op rfl (op_pick_f (v := (Value.bool false)) rfl rfl ?_)
          refine Rg_op rfl (op_move (v := (Value.bool false)) rfl ?_)
          iterate 2 refine Rg_opx rfl (asB_ne rfl rfl) rfl ?_
          refine Rg_op rfl (op_pick_f (v := (Value.bool false)) rfl rfl ?_)
          refine Rg_op rfl (op_move (v := (Value.bool false)) rfl ?_)
          iterate 3 refine Rg_opx rfl (asB_ne rfl rfl) rfl ?_
          refine Rg_op rfl (op_pick_f (v := (Value.bool false)) rfl rfl ?_)
          refine Rg_op rfl (op_assign (v := (Value.bool false)) rfl ?_)
          refine Rg_nil ?_
          exact hK283 _ _ ⟨false, _, rfl, ⟨(by repeat (first | with_reducible exact Out.refl _ _ | refine Out.upd ?_ rfl | refine Out.updL ?_ rfl | refine Out.mix' ?_ rfl | exact Out.refl _ _)), rfl, rfl, trivial⟩, ch289, hs299, hm⟩
        ·
         replace hm := bif_f hm hg305
         iterate 3 refine Rg_opx rfl (asB_ne rfl rfl) rfl ?_
         refine Rg_op rfl (op_pick_f (v := (Value.bool false)) rfl rfl ?_)
         refine Rg_op rfl (op_move (v := (Value.bool false)) rfl ?_)
         iterate 2 refine Rg_opx rfl (asB_ne rfl rfl) rfl ?_
         refine Rg_op rfl (op_pick_f (v := (Value.bool false)) rfl rfl ?_)
         refine Rg_op rfl (op_move (v := (Value.bool false)) rfl ?_)
         iterate 4 refine Rg_opx rfl (asB_ne rfl rfl) rfl ?_
         refine Rg_op rfl (op_pick_f (v := (Value.bool false)) rfl rfl ?_)
         refine Rg_op rfl (op_move (v := (Value.bool false)) rfl ?_)
         iterate 6 refine Rg_opx rfl (asB_ne rfl rfl) rfl ?_
         refine Rg_op rfl (op_pick_f (v := (Value.bool false)) rfl rfl ?_)
         refine Rg_op rfl (op_move (v := (Value.bool false)) rfl ?_)
         iterate 2 refine Rg_opx rfl (asB_ne rfl rfl) rfl ?_
         refine Rg_op rfl (op_pick_f (v := (Value.bool false)) rfl rfl ?_)
         refine Rg_op rfl (op_move (v := (Value.bool false)) rfl ?_)
         iterate 3 refine Rg_opx rfl (asB_ne rfl rfl) rfl ?_
         refine Rg_op rfl (op_pick_f (v := (Value.bool false)) rfl rfl ?_)
         refine Rg_op rfl (op_assign (v := (Value.bool false)) rfl ?_)
         refine Rg_nil ?_
         exact hK283 _ _ ⟨false, _, rfl, ⟨(by repeat (first | with_reducible exact Out.refl _ _ | refine Out.upd ?_ rfl | refine Out.updL ?_ rfl | refine Out.mix' ?_ rfl | exact Out.refl _ _)), rfl, rfl, trivial⟩, ch289, hs299, hm⟩
       ·
        replace hm := bif_f hm hg304
        iterate 2 refine Rg_opx rfl (asB_ne rfl rfl) rfl ?_
        refine Rg_op rfl (op_pick_f (v := (Value.bool false)) rfl rfl ?_)
        refine Rg_op rfl (op_move (v := (Value.bool false)) rfl ?_)
        iterate 3 refine Rg_opx rfl (asB_ne rfl rfl) rfl ?_
        refine Rg_op rfl (op_pick_f (v := (Value.bool false)) rfl rfl ?_)
        refine Rg_op rfl (op_move (v := (Value.bool false)) rfl ?_)
        iterate 2 refine Rg_opx rfl (asB_ne rfl rfl) rfl ?_
        refine Rg_op rfl (op_pick_f (v := (Value.bool false)) rfl rfl ?_)
        refine Rg_op rfl (op_move (v := (Value.bool false)) rfl ?_)
        iterate 4 refine Rg_opx rfl (asB_ne rfl rfl) rfl ?_
        refine Rg_op rfl (op_pick_f (v := (Value.bool false)) rfl rfl ?_)
        refine Rg_op rfl (op_move (v := (Value.bool false)) rfl ?_)
        iterate 6 refine Rg_opx rfl (asB_ne rfl rfl) rfl ?_
        refine Rg_op rfl (op_pick_f (v := (Value.bool false)) rfl rfl ?_)
        refine Rg_op rfl (op_move (v := (Value.bool false)) rfl ?_)
        iterate 2 refine Rg_opx rfl (asB_ne rfl rfl) rfl ?_
        refine Rg_op rfl (op_pick_f (v := (Value.bool false)) rfl rfl ?_)
        refine Rg_op rfl (op_move (v := (Value.bool false)) rfl ?_)
        iterate 3 refine Rg_opx rfl (asB_ne rfl rfl) rfl ?_
        refine Rg_op rfl (op_pick_f (v := (Value.bool false)) rfl rfl ?_)
        refine Rg_op rfl (op_assign (v := (Value.bool false)) rfl ?_)
        refine Rg_nil ?_
        exact hK283 _ _ ⟨false, _, rfl, ⟨(by repeat (first | with_reducible exact Out.refl _ _ | refine Out.upd ?_ rfl | refine Out.updL ?_ rfl | refine Out.mix' ?_ rfl | exact Out.refl _ _)), rfl, rfl, trivial⟩, ch289, hs299, hm⟩
      ·
       replace hm := bif_f hm hg303
       iterate 2 refine Rg_opx rfl (asB_ne rfl rfl) rfl ?_
       refine Rg_op rfl (op_pick_f (v := (Value.bool false)) rfl rfl ?_)
       refine Rg_op rfl (op_move (v := (Value.bool false)) rfl ?_)
       iterate 2 refine Rg_opx rfl (asB_ne rfl rfl) rfl ?_
       refine Rg_op rfl (op_pick_f (v := (Value.bool false)) rfl rfl ?_)
       refine Rg_op rfl (op_move (v := (Value.bool false)) rfl ?_)
       iterate 3 refine Rg_opx rfl (asB_ne rfl rfl) rfl ?_
       refine Rg_op rfl (op_pick_f (v := (Value.bool false)) rfl rfl ?_)
       refine Rg_op rfl (op_move (v := (Value.bool false)) rfl ?_)
       iterate 2 refine Rg_opx rfl (asB_ne rfl rfl) rfl ?_
       refine Rg_op rfl (op_pick_f (v := (Value.bool false)) rfl rfl ?_)
       refine Rg_op rfl (op_move (v := (Value.bool false)) rfl ?_)
       iterate 4 refine Rg_opx rfl (asB_ne rfl rfl) rfl ?_
       refine Rg_op rfl (op_pick_f (v := (Value.bool false)) rfl rfl ?_)
       refine Rg_op rfl (op_move (v := (Value.bool false)) rfl ?_)
       iterate 6 refine Rg_opx rfl (asB_ne rfl rfl) rfl ?_
       refine Rg_op rfl (op_pick_f (v := (Value.bool false)) rfl rfl ?_)
       refine Rg_op rfl (op_move (v := (Value.bool false)) rfl ?_)
       iterate 2 refine Rg_opx rfl (asB_ne rfl rfl) rfl ?_
       refine Rg_op rfl (op_pick_f (v := (Value.bool false)) rfl rfl ?_)
       refine Rg_op rfl (op_move (v := (Value.bool false)) rfl ?_)
       iterate 3 refine Rg_opx rfl (asB_ne rfl rfl) rfl ?_
       refine Rg_op rfl (op_pick_f (v := (Value.bool false)) rfl rfl ?_)
       refine Rg_op rfl (op_assign (v := (Value.bool false)) rfl ?_)
       refine Rg_nil ?_
       exact hK283 _ _ ⟨false, _, rfl, ⟨(by repeat (first | with_reducible exact Out.refl _ _ | refine Out.upd ?_ rfl | refine Out.updL ?_ rfl | refine Out.mix' ?_ rfl | exact Out.refl _ _)), rfl, rfl, trivial⟩, ch289, hs299, hm⟩
     ·
      replace hm := bif_f hm hg302
      iterate 2 refine Rg_opx rfl (asB_ne rfl rfl) rfl ?_
      refine Rg_op rfl (op_pick_f (v := (Value.bool false)) rfl rfl ?_)
      refine Rg_op rfl (op_move (v := (Value.bool false)) rfl ?_)
      iterate 2 refine Rg_opx rfl (asB_ne rfl rfl) rfl ?_
      refine Rg_op rfl (op_pick_f (v := (Value.bool false)) rfl rfl ?_)
      refine Rg_op rfl (op_move (v := (Value.bool false)) rfl ?_)
      iterate 2 refine Rg_opx rfl (asB_ne rfl rfl) rfl ?_
      refine Rg_op rfl (op_pick_f (v := (Value.bool false)) rfl rfl ?_)
      refine Rg_op rfl (op_move (v := (Value.bool false)) rfl ?_)
      iterate 3 refine Rg_opx rfl (asB_ne rfl rfl) rfl ?_
      refine Rg_op rfl (op_pick_f (v := (Value.bool false)) rfl rfl ?_)
      refine Rg_op rfl (op_move (v := (Value.bool false)) rfl ?_)
      iterate 2 refine Rg_opx rfl (asB_ne rfl rfl) rfl ?_
      refine Rg_op rfl (op_pick_f (v := (Value.bool false)) rfl rfl ?_)
      refine Rg_op rfl (op_move (v := (Value.bool false)) rfl ?_)
      iterate 4 refine Rg_opx rfl (asB_ne rfl rfl) rfl ?_
      refine Rg_op rfl (op_pick_f (v := (Value.bool false)) rfl rfl ?_)
      refine Rg_op rfl (op_move (v := (Value.bool false)) rfl ?_)
      iterate 6 refine Rg_opx rfl (asB_ne rfl rfl) rfl ?_
      refine Rg_op rfl (op_pick_f (v := (Value.bool false)) rfl rfl ?_)
      refine Rg_op rfl (op_move (v := (Value.bool false)) rfl ?_)
      iterate 2 refine Rg_opx rfl (asB_ne rfl rfl) rfl ?_
      refine Rg_op rfl (op_pick_f (v := (Value.bool false)) rfl rfl ?_)
      refine Rg_op rfl (op_move (v := (Value.bool false)) rfl ?_)
      iterate 3 refine Rg_opx rfl (asB_ne rfl rfl) rfl ?_
      refine Rg_op rfl (op_pick_f (v := (Value.bool false)) rfl rfl ?_)
      refine Rg_op rfl (op_assign (v := (Value.bool false)) rfl ?_)
      refine Rg_nil ?_
      exact hK283 _ _ ⟨false, _, rfl, ⟨(by repeat (first | with_reducible exact Out.refl _ _ | refine Out.upd ?_ rfl | refine Out.updL ?_ rfl | refine Out.mix' ?_ rfl | exact Out.refl _ _)), rfl, rfl, trivial⟩, ch289, hs299, hm⟩
    ·
     replace hm := bif_f hm hg293
     iterate 3 refine Rg_opx rfl (asB_ne rfl rfl) rfl ?_
     refine Rg_op rfl (op_pick_f (v := (Value.bool false)) rfl rfl ?_)
     refine Rg_op rfl (op_move (v := (Value.bool false)) rfl ?_)
     iterate 2 refine Rg_opx rfl (asB_ne rfl rfl) rfl ?_
     refine Rg_op rfl (op_pick_f (v := (Value.bool false)) rfl rfl ?_)
     refine Rg_op rfl (op_move (v := (Value.bool false)) rfl ?_)
     iterate 2 refine Rg_opx rfl (asB_ne rfl rfl) rfl ?_
     refine Rg_op rfl (op_pick_f (v := (Value.bool false)) rfl rfl ?_)
     refine Rg_op rfl (op_move (v := (Value.bool false)) rfl ?_)
     iterate 2 refine Rg_opx rfl (asB_ne rfl rfl) rfl ?_
     refine Rg_op rfl (op_pick_f (v := (Value.bool false)) rfl rfl ?_)
     refine Rg_op rfl (op_move (v := (Value.bool false)) rfl ?_)
     iterate 3 refine Rg_opx rfl (asB_ne rfl rfl) rfl ?_
     refine Rg_op rfl (op_pick_f (v := (Value.bool false)) rfl rfl ?_)
     refine Rg_op rfl (op_move (v := (Value.bool false)) rfl ?_)
     iterate 2 refine Rg_opx rfl (asB_ne rfl rfl) rfl ?_
     refine Rg_op rfl (op_pick_f (v := (Value.bool false)) rfl rfl ?_)
     refine Rg_op rfl (op_move (v := (Value.bool false)) rfl ?_)
     iterate 4 refine Rg_opx rfl (asB_ne rfl rfl) rfl ?_
     refine Rg_op rfl (op_pick_f (v := (Value.bool false)) rfl rfl ?_)
     refine Rg_op rfl (op_move (v := (Value.bool false)) rfl ?_)
     iterate 6 refine Rg_opx rfl (asB_ne rfl rfl) rfl ?_
     refine Rg_op rfl (op_pick_f (v := (Value.bool false)) rfl rfl ?_)
     refine Rg_op rfl (op_move (v := (Value.bool false)) rfl ?_)
     iterate 2 refine Rg_opx rfl (asB_ne rfl rfl) rfl ?_
     refine Rg_op rfl (op_pick_f (v := (Value.bool false)) rfl rfl ?_)
     refine Rg_op rfl (op_move (v := (Value.bool false)) rfl ?_)
     iterate 3 refine Rg_opx rfl (asB_ne rfl rfl) rfl ?_
     refine Rg_op rfl (op_pick_f (v := (Value.bool false)) rfl rfl ?_)
     refine Rg_op rfl (op_assign (v := (Value.bool false)) rfl ?_)
     refine Rg_nil ?_
     exact hK283 _ _ ⟨false, _, rfl, ⟨(by repeat (first | with_reducible exact Out.refl _ _ | refine Out.upd ?_ rfl | refine Out.updL ?_ rfl | refine Out.mix' ?_ rfl | exact Out.refl _ _)), rfl, rfl, trivial⟩, ch289, hs278, hm⟩
   ·
    replace hm := bif_f hm hg291
    iterate 4 refine Rg_opx rfl (asB_ne rfl rfl) rfl ?_
    refine Rg_op rfl (op_pick_f (v := (Value.bool false)) rfl rfl ?_)
    refine Rg_op rfl (op_move (v := (Value.bool false)) rfl ?_)
    iterate 3 refine Rg_opx rfl (asB_ne rfl rfl) rfl ?_
    refine Rg_op rfl (op_pick_f (v := (Value.bool false)) rfl rfl ?_)
    refine Rg_op rfl (op_move (v := (Value.bool false)) rfl ?_)
    iterate 2 refine Rg_opx rfl (asB_ne rfl rfl) rfl ?_
    refine Rg_op rfl (op_pick_f (v := (Value.bool false)) rfl rfl ?_)
    refine Rg_op rfl (op_move (v := (Value.bool false)) rfl ?_)
    iterate 2 refine Rg_opx rfl (asB_ne rfl rfl) rfl ?_
    refine Rg_op rfl (op_pick_f (v := (Value.bool false)) rfl rfl ?_)
    refine Rg_op rfl (op_move (v := (Value.bool false)) rfl ?_)
    iterate 2 refine Rg_opx rfl (asB_ne rfl rfl) rfl ?_
    refine Rg_op rfl (op_pick_f (v := (Value.bool false)) rfl rfl ?_)
    refine Rg_op rfl (op_move (v := (Value.bool false)) rfl ?_)
    iterate 3 refine Rg_opx rfl (asB_ne rfl rfl) rfl ?_
    refine Rg_op rfl (op_pick_f (v := (Value.bool false)) rfl rfl ?_)
    refine Rg_op rfl (op_move (v := (Value.bool false)) rfl ?_)
    iterate 2 refine Rg_opx rfl (asB_ne rfl rfl) rfl ?_
    refine Rg_op rfl (op_pick_f (v := (Value.bool false)) rfl rfl ?_)
    refine Rg_op rfl (op_move (v := (Value.bool false)) rfl ?_)
    iterate 4 refine Rg_opx rfl (asB_ne rfl rfl) rfl ?_
    refine Rg_op rfl (op_pick_f (v := (Value.bool false)) rfl rfl ?_)
    refine Rg_op rfl (op_move (v := (Value.bool false)) rfl ?_)
    iterate 6 refine Rg_opx rfl (asB_ne rfl rfl) rfl ?_
    refine Rg_op rfl (op_pick_f (v := (Value.bool false)) rfl rfl ?_)
    refine Rg_op rfl (op_move (v := (Value.bool false)) rfl ?_)
    iterate 2 refine Rg_opx rfl (asB_ne rfl rfl) rfl ?_
    refine Rg_op rfl (op_pick_f (v := (Value.bool false)) rfl rfl ?_)
    refine Rg_op rfl (op_move (v := (Value.bool false)) rfl ?_)
    iterate 3 refine Rg_opx rfl (asB_ne rfl rfl) rfl ?_
    refine Rg_op rfl (op_pick_f (v := (Value.bool false)) rfl rfl ?_)
    refine Rg_op rfl (op_assign (v := (Value.bool false)) rfl ?_)
    refine Rg_nil ?_
    exact hK283 _ _ ⟨false, _, rfl, ⟨(by repeat (first | with_reducible exact Out.refl _ _ | refine Out.upd ?_ rfl | refine Out.updL ?_ rfl | refine Out.mix' ?_ rfl | exact Out.refl _ _)), rfl, rfl, trivial⟩, ch289, hs278, hm⟩
  ·
   replace hm := bif_f hm hg290
   iterate 2 refine Rg_opx rfl (asB_ne rfl rfl) rfl ?_
   refine Rg_op rfl (op_pick_f (v := (Value.bool false)) rfl rfl ?_)
   refine Rg_op rfl (op_move (v := (Value.bool false)) rfl ?_)
   iterate 4 refine Rg_opx rfl (asB_ne rfl rfl) rfl ?_
   refine Rg_op rfl (op_pick_f (v := (Value.bool false)) rfl rfl ?_)
   refine Rg_op rfl (op_move (v := (Value.bool false)) rfl ?_)
   iterate 3 refine Rg_opx rfl (asB_ne rfl rfl) rfl ?_
   refine Rg_op rfl (op_pick_f (v := (Value.bool false)) rfl rfl ?_)
   refine Rg_op rfl (op_move (v := (Value.bool false)) rfl ?_)
   iterate 2 refine Rg_opx rfl (asB_ne rfl rfl) rfl ?_
   refine Rg_op rfl (op_pick_f (v := (Value.bool false)) rfl rfl ?_)
   refine Rg_op rfl (op_move (v := (Value.bool false)) rfl ?_)
   iterate 2 refine Rg_opx rfl (asB_ne rfl rfl) rfl ?_
   refine Rg_op rfl (op_pick_f (v := (Value.bool false)) rfl rfl ?_)
   refine Rg_op rfl (op_move (v := (Value.bool false)) rfl ?_)
   iterate 2 refine Rg_opx rfl (asB_ne rfl rfl) rfl ?_
   refine Rg_op rfl (op_pick_f (v := (Value.bool false)) rfl rfl ?_)
   refine Rg_op rfl (op_move (v := (Value.bool false)) rfl ?_)
   iterate 3 refine Rg_opx rfl (asB_ne rfl rfl) rfl ?_
   refine Rg_op rfl (op_pick_f (v := (Value.bool false)) rfl rfl ?_)
   refine Rg_op rfl (op_move (v := (Value.bool false)) rfl ?_)
   iterate 2 refine Rg_opx rfl (asB_ne rfl rfl) rfl ?_
   refine Rg_op rfl (op_pick_f (v := (Value.bool false)) rfl rfl ?_)
   refine Rg_op rfl (op_move (v := (Value.bool false)) rfl ?_)
   iterate 4 refine Rg_opx rfl (asB_ne rfl rfl) rfl ?_
   refine Rg_op rfl (op_pick_f (v := (Value.bool false)) rfl rfl ?_)
   refine Rg_op rfl (op_move (v := (Value.bool false)) rfl ?_)
   iterate 6 refine Rg_opx rfl (asB_ne rfl rfl) rfl ?_
   refine Rg_op rfl (op_pick_f (v := (Value.bool false)) rfl rfl ?_)
   refine Rg_op rfl (op_move (v := (Value.bool false)) rfl ?_)
   iterate 2 refine Rg_opx rfl (asB_ne rfl rfl) rfl ?_
   refine Rg_op rfl (op_pick_f (v := (Value.bool false)) rfl rfl ?_)
   refine Rg_op rfl (op_move (v := (Value.bool false)) rfl ?_)
   iterate 3 refine Rg_opx rfl (asB_ne rfl rfl) rfl ?_
   refine Rg_op rfl (op_pick_f (v := (Value.bool false)) rfl rfl ?_)
   refine Rg_op rfl (op_assign (v := (Value.bool false)) rfl ?_)
   refine Rg_nil ?_
   exact hK283 _ _ ⟨false, _, rfl, ⟨(by repeat (first | with_reducible exact Out.refl _ _ | refine Out.upd ?_ rfl | refine Out.updL ?_ rfl | refine Out.mix' ?_ rfl | exact Out.refl _ _)), rfl, rfl, trivial⟩, ch289, hs278, hm⟩

end Go.Fx



set_option linter.unusedVariables false
set_option linter.unusedSimpArgs false
set_option maxRecDepth 100000
set_option maxHeartbeats 0
namespace Go.Fx
open Go Go.RowKit Go.Proofs
def m29_overflightlaw45_few_B0 (d : XDisk) (records : List (List UInt8)) (sf10 : Int → Int → Option Bool) (n_1 : Int) (v_1 : Int) : Option Bool :=
 bif (decide (v_1 < (records.length : Int))) then
  ck ((0 : Int) ≤ v_1 ∧ v_1 < (records.length : Int)) <|
  sf10 (IntKind.wrap .i64 (n_1 + (IntKind.wrap .i64 (1 + ((records.getD v_1.toNat default).length : Int))))) (IntKind.wrap .i64 (v_1 + 1))
 else
  bif (decide ((d.sectors.length : Int) ≤ 40)) then
   bif (decide ((d.pending.length : Int) ≤ 40)) then
    some (decide (n_1 ≤ 4000))
   else
    some false
  else
   some false

def m29_overflightlaw45_few (d : XDisk) (records : List (List UInt8)) : Option Bool :=
 loop2 (m29_overflightlaw45_few_B0 d records) (((records.length : Int) - 0).toNat + 1) 0 0

theorem c29_overflightlaw45_few {w : World} {O : List Nat} {d : XDisk} {records : List (List UInt8)} {a_d_sectors : Option Addr} {c_d_sectors : Nat} {a_d_pending : Option Addr} {c_d_pending : Nat} {a_records : Option Addr} {c_records : Nat} (hO : ∀ k ∈ O, k < w.heap.size) (f_d_sectors : SlR (rSl rU8) w O a_d_sectors c_d_sectors d.sectors) (f_d_pending : SlR rXWrite w O a_d_pending c_d_pending d.pending) (r_d_left : InK .i64 d.left) (f_records : SlR (rSl rU8) w O a_records c_records records) {x : Bool} (hm : m29_overflightlaw45_few d records = some x) :
  Ok Try.prog 29 [(Value.agg [(Value.slice a_d_sectors d.sectors.length c_d_sectors), (Value.slice a_d_pending d.pending.length c_d_pending), (Value.int .i64 d.left), (Value.bool d.stopped)].toArray), (Value.slice a_records records.length c_records)] w O vB x := by
 unfold m29_overflightlaw45_few at hm
 refine Fn_of_Wp (n := 34) (xs := [.tmp 4]) Try.func29 rfl Try.ntmps29 Try.results29 rfl ?_
 have hs := St.start hO
 refine Wp_seq ?_
 refine Wp_region ?_
 refine Rg_op rfl (op_box (cs := [(Value.slice a_d_sectors d.sectors.length c_d_sectors), (Value.slice a_d_pending d.pending.length c_d_pending), (Value.int .i64 d.left), (Value.bool d.stopped)]) hs rfl rfl ?_)
 intro b1 w2 _ p3 hs4
 replace f_d_sectors := f_d_sectors.step p3; replace f_d_pending := f_d_pending.step p3; replace f_records := f_records.step p3; clear p3
 refine Rg_op rfl (op_assign (v := (Value.bool false)) rfl ?_)
 refine Rg_nil ?_
 refine Wp_seq ?_
 refine Wp_region ?_
 refine Rg_op rfl (op_assign (v := (Value.int .i64 0)) rfl ?_)
 refine Rg_nil ?_
 refine Wp_seq ?_
 refine Wp_seq ?_
 refine Wp_region ?_
 refine Rg_op rfl (op_move (v := (Value.slice a_records records.length c_records)) rfl ?_)
 refine Rg_op rfl (op_len Try.underlying22 rfl ?_)
 have rl6 := inK_len f_records
 refine Rg_op rfl (op_move (v := (Value.int .i64 0)) rfl ?_)
 refine Rg_nil ?_
 refine Wp_block ?_
 refine Wp_reset [] [(2, (Value.pointer (some ⟨b1, 0, none⟩))), (5, (Value.int .i64 0)), (8, (Value.slice a_records records.length c_records)), (9, (Value.int .i64 (records.length : Int))), (10, (Value.int .i64 0))] rfl ⟨rfl, rfl, rfl, rfl, rfl, trivial⟩ fun ξ9 => ?_
 refine Wp_loopM [5, 7, 10, 11, 12, 13, 14, 15, 16, 17, 18, 19] (fun m fr w' => ∃ (n_1 : Int) (v_1 : Int) (Ebs : Ents), Ebs = [(some b1, Obj.cells [(Value.slice a_d_sectors d.sectors.length c_d_sectors), (Value.slice a_d_pending d.pending.length c_d_pending), (Value.int .i64 d.left), (Value.bool d.stopped)].toArray 25)] ∧ fr [] [(5, (Value.int .i64 n_1)), (10, (Value.int .i64 v_1))] ∧ Step (ks [(some b1, Obj.cells [(Value.slice a_d_sectors d.sectors.length c_d_sectors), (Value.slice a_d_pending d.pending.length c_d_pending), (Value.int .i64 d.left), (Value.bool d.stopped)].toArray 25)] O) w2 (ks Ebs O) w' ∧ St ⟨w, [], []⟩ O w' Ebs ∧ InK .i64 n_1 ∧ InK .i64 v_1 ∧ loop2 (m29_overflightlaw45_few_B0 d records) m n_1 v_1 = some x) (((records.length : Int) - 0).toNat + 1) ⟨0, 0, _, rfl, ⟨Out.refl _ _, rfl, rfl, rfl, trivial⟩, Step.refl _ _, hs4, (show InK .i64 0 from by decide), (show InK .i64 0 from by decide), hm⟩ ?_ ?_
 · rintro _ _ ⟨_, _, _, _, _, _, _, _, _, hm⟩; exact loop2_z hm
 ·
  rintro m13 K12 hK12 ρ18 w14 ⟨n_1, v_1, Ebs, hEbs, hfr17, hst16, hs15, r_y7, r_y8, hm⟩
  obtain ⟨sf10, hsf11, hm⟩ := loop2_s hm; unfold m29_overflightlaw45_few_B0 at hm
  subst hEbs; rw [hfr17.eq]; clear hfr17
  replace f_d_sectors := f_d_sectors.step hst16; replace f_d_pending := f_d_pending.step hst16; replace f_records := f_records.step hst16
  have ch19 := hst16
  refine Wp_seq ?_
  refine Wp_region ?_
  refine Rg_op rfl (op_lss rfl rfl ?_)
  refine Rg_nil ?_
  refine Wp_seq ?_
  refine Wp_cond rfl (fun hc20 => ?_) (fun hc20 => ?_)
  ·
   replace hm := bif_t hm hc20
   refine Wp_skip ?_
   refine Wp_seq ?_
   refine Wp_block ?_
   refine Wp_seq ?_
   refine Wp_region ?_
   replace hm := ck_some hm; obtain ⟨hc21, hm⟩ := hm
   refine Rg_op rfl (op_indexAddr (q := (rSl rU8)) ty22 ty41 rfl rfl f_records rfl hc21.1 hc21.2 ?_)
   intro p22 f23
   refine Rg_op rfl (op_loadP ty41 rfl f23 rfl ?_)
   intro v24 h25
   obtain ⟨a_y26, c_y26, rfl, f_y26⟩ := un_sl h25
   refine Rg_op rfl (op_assign (v := (Value.slice a_y26 (records.getD v_1.toNat default).length c_y26)) rfl ?_)
   refine Rg_nil ?_
   clear f23
   refine Wp_region ?_
   refine Rg_op rfl (op_move (v := (Value.int .i64 n_1)) rfl ?_)
   refine Rg_op rfl (op_move (v := (Value.slice a_y26 (records.getD v_1.toNat default).length c_y26)) rfl ?_)
   refine Rg_op rfl (op_len Try.underlying41 rfl ?_)
   have rl27 := inK_len f_y26
   refine Rg_op rfl (op_addw rfl rfl ?_)
   refine Rg_op rfl (op_addw rfl rfl ?_)
   refine Rg_op rfl (op_assign (v := (Value.int .i64 (IntKind.wrap .i64 (n_1 + (IntKind.wrap .i64 (1 + ((records.getD v_1.toNat default).length : Int))))))) rfl ?_)
   refine Rg_nil ?_
   clear f_y26
   refine Wp_region ?_
   refine Rg_op rfl (op_addw rfl rfl ?_)
   refine Rg_op rfl (op_move (v := (Value.int .i64 (IntKind.wrap .i64 (v_1 + 1)))) rfl ?_)
   refine Rg_nil ?_
   exact hK12 _ _ ⟨(IntKind.wrap .i64 (n_1 + (IntKind.wrap .i64 (1 + ((records.getD v_1.toNat default).length : Int))))), (IntKind.wrap .i64 (v_1 + 1)), _, rfl, ⟨(by repeat (first | with_reducible exact Out.refl _ _ | refine Out.upd ?_ rfl | refine Out.updL ?_ rfl | refine Out.mix' ?_ rfl | exact Out.refl _ _)), rfl, rfl, rfl, trivial⟩, ch19, hs15, (inK_wrap .i64 _), (inK_wrap .i64 _), jnE2 hsf11 hm⟩
  ·
   replace hm := bif_f hm hc20
   refine Wp_exit ?_
   refine Wp_seq ?_
   clear f_records
   refine Wp_region ?_
   refine Rg_op rfl (op_fieldAddr ty25 rfl ty22 (by decide) rfl (rfl : _ = (⟨_, 0, none⟩ : Addr)) ?_)
   refine Rg_op rfl (op_load (cs := [(Value.slice a_d_sectors d.sectors.length c_d_sectors), (Value.slice a_d_pending d.pending.length c_d_pending), (Value.int .i64 d.left), (Value.bool d.stopped)]) (i := 0) ty22 hs15 rfl rfl rfl ?_)
   refine Rg_op rfl (op_len Try.underlying22 rfl ?_)
   have rl28 := inK_len f_d_sectors
   refine Rg_op rfl (op_leq rfl rfl ?_)
   refine Rg_op rfl (op_move (v := (Value.bool (decide ((d.sectors.length : Int) ≤ 40)))) rfl ?_)
   refine Rg_case (fun hg29 => ?_) (fun hg29 => ?_)
   ·
    replace hm := bif_t hm hg29
    refine Rg_opg rfl rfl rfl (op_fieldAddr ty25 rfl ty23 (by decide) rfl (rfl : _ = (⟨_, 1, none⟩ : Addr)) ?_)
    refine Rg_opg rfl rfl rfl (op_load (cs := [(Value.slice a_d_sectors d.sectors.length c_d_sectors), (Value.slice a_d_pending d.pending.length c_d_pending), (Value.int .i64 d.left), (Value.bool d.stopped)]) (i := 0) ty23 hs15 rfl rfl rfl ?_)
    refine Rg_opg rfl rfl rfl (op_len Try.underlying23 rfl ?_)
    have rl30 := inK_len f_d_pending
    refine Rg_opg rfl rfl rfl (op_leq rfl rfl ?_)
    refine Rg_op rfl (op_pick_t (v := (Value.bool (decide ((d.pending.length : Int) ≤ 40)))) rfl rfl ?_)
    refine Rg_op rfl (op_move (v := (Value.bool (decide ((d.pending.length : Int) ≤ 40)))) rfl ?_)
    refine Rg_case (fun hg31 => ?_) (fun hg31 => ?_)
    ·
     replace hm := bif_t hm hg31
     refine Rg_opg rfl rfl rfl (op_move (v := (Value.int .i64 n_1)) rfl ?_)
     refine Rg_opg rfl rfl rfl (op_leq rfl rfl ?_)
     refine Rg_op rfl (op_pick_t (v := (Value.bool (decide (n_1 ≤ 4000)))) rfl rfl ?_)
     refine Rg_op rfl (op_assign (v := (Value.bool (decide (n_1 ≤ 4000)))) rfl ?_)
     refine Rg_nil ?_
     refine Wp_ret ?_
     have hz := step_all hs15
     replace f_d_sectors := f_d_sectors.step hz; replace f_d_pending := f_d_pending.step hz
     refine ⟨_, (show Closes [] _ _ from rfl), [(Value.bool (decide (n_1 ≤ 4000)))], ⟨rfl, trivial⟩, hs15.ext, ?_⟩
     exact Vr.eq (a := vB) (x := (decide (n_1 ≤ 4000))) rfl (Option.some.inj hm)
    ·
     replace hm := bif_f hm hg31
     iterate 2 refine Rg_opx rfl (asB_ne rfl rfl) rfl ?_
     refine Rg_op rfl (op_pick_f (v := (Value.bool false)) rfl rfl ?_)
     refine Rg_op rfl (op_assign (v := (Value.bool false)) rfl ?_)
     refine Rg_nil ?_
     refine Wp_ret ?_
     have hz := step_all hs15
     replace f_d_sectors := f_d_sectors.step hz; replace f_d_pending := f_d_pending.step hz
     refine ⟨_, (show Closes [] _ _ from rfl), [(Value.bool false)], ⟨rfl, trivial⟩, hs15.ext, ?_⟩
     exact Vr.eq (a := vB) (x := false) rfl (Option.some.inj hm)
   ·
    replace hm := bif_f hm hg29
    iterate 4 refine Rg_opx rfl (asB_ne rfl rfl) rfl ?_
    refine Rg_op rfl (op_pick_f (v := (Value.bool false)) rfl rfl ?_)
    refine Rg_op rfl (op_move (v := (Value.bool false)) rfl ?_)
    iterate 2 refine Rg_opx rfl (asB_ne rfl rfl) rfl ?_
    refine Rg_op rfl (op_pick_f (v := (Value.bool false)) rfl rfl ?_)
    refine Rg_op rfl (op_assign (v := (Value.bool false)) rfl ?_)
    refine Rg_nil ?_
    refine Wp_ret ?_
    have hz := step_all hs15
    replace f_d_sectors := f_d_sectors.step hz; replace f_d_pending := f_d_pending.step hz
    refine ⟨_, (show Closes [] _ _ from rfl), [(Value.bool false)], ⟨rfl, trivial⟩, hs15.ext, ?_⟩
    exact Vr.eq (a := vB) (x := false) rfl (Option.some.inj hm)

end Go.Fx



set_option linter.unusedVariables false
set_option linter.unusedSimpArgs false
set_option maxRecDepth 100000
set_option maxHeartbeats 0
namespace Go.Fx
open Go Go.RowKit Go.Proofs
def m57_overflightref45_Sectors (n : Int) : Option Int :=
 some (max 1 (IntKind.wrap .i64 ((IntKind.wrap .i64 ((IntKind.wrap .i64 (n + 112)) - 1)).tdiv 112)))

theorem c57_overflightref45_Sectors {w : World} {O : List Nat} {n : Int} (hO : ∀ k ∈ O, k < w.heap.size) (r_n : InK .i64 n) {x : Int} (hm : m57_overflightref45_Sectors n = some x) :
  Ok Try.prog 57 [(Value.int .i64 n)] w O (vI .i64) x := by
 unfold m57_overflightref45_Sectors at hm
 refine Fn_of_Wp (n := 8) (xs := [.tmp 2]) Try.func57 rfl Try.ntmps57 Try.results57 rfl ?_
 have hs := St.start hO
 refine Wp_seq ?_
 refine Wp_region ?_
 refine Rg_op rfl (op_assign (v := (Value.int .i64 0)) rfl ?_)
 refine Rg_nil ?_
 refine Wp_seq ?_
 refine Wp_region ?_
 refine Rg_op rfl (op_move (v := (Value.int .i64 n)) rfl ?_)
 refine Rg_op rfl (op_addw rfl rfl ?_)
 refine Rg_op rfl (op_subw rfl rfl ?_)
 refine Rg_op rfl (op_quo rfl rfl (by decide) ?_)
 refine Rg_op rfl (op_max rfl rfl ?_)
 refine Rg_op rfl (op_assign (v := (Value.int .i64 (max 1 (IntKind.wrap .i64 ((IntKind.wrap .i64 ((IntKind.wrap .i64 (n + 112)) - 1)).tdiv 112))))) rfl ?_)
 refine Rg_nil ?_
 refine Wp_ret ?_
 have hz := step_all hs
 refine ⟨_, (show Closes [] _ _ from rfl), [(Value.int .i64 (max 1 (IntKind.wrap .i64 ((IntKind.wrap .i64 ((IntKind.wrap .i64 (n + 112)) - 1)).tdiv 112))))], ⟨rfl, trivial⟩, hs.ext, ?_⟩
 exact Vr.eq (a := (vI .i64)) (x := (max 1 (IntKind.wrap .i64 ((IntKind.wrap .i64 ((IntKind.wrap .i64 (n + 112)) - 1)).tdiv 112)))) ⟨rfl, (inK_max (show InK .i64 1 from by decide) (inK_wrap .i64 _))⟩ (Option.some.inj hm)

end Go.Fx



set_option linter.unusedVariables false
set_option linter.unusedSimpArgs false
set_option maxRecDepth 100000
set_option maxHeartbeats 0
namespace Go.Fx
open Go Go.RowKit Go.Proofs
def m58_overflightref45_Used_B0 (l : List (List UInt8)) (sf4 : Int → Int → Option Int) (n_1 : Int) (i_1 : Int) : Option Int :=
 bif (decide (i_1 < (l.length : Int))) then
  ck ((0 : Int) ≤ i_1 ∧ i_1 < (l.length : Int)) <|
  (m57_overflightref45_Sectors ((l.getD i_1.toNat default).length : Int)).bind fun sectors_1 =>
  sf4 (IntKind.wrap .i64 (n_1 + sectors_1)) (IntKind.wrap .i64 (i_1 + 1))
 else
  some n_1

def m58_overflightref45_Used (l : List (List UInt8)) : Option Int :=
 loop2 (m58_overflightref45_Used_B0 l) (((l.length : Int) - 0).toNat + 1) 0 0

theorem c58_overflightref45_Used {w : World} {O : List Nat} {l : List (List UInt8)} {a_l : Option Addr} {c_l : Nat} (hO : ∀ k ∈ O, k < w.heap.size) (f_l : SlR (rSl rU8) w O a_l c_l l) {x : Int} (hm : m58_overflightref45_Used l = some x) :
  Ok Try.prog 58 [(Value.slice a_l l.length c_l)] w O (vI .i64) x := by
 unfold m58_overflightref45_Used at hm
 refine Fn_of_Wp (n := 20) (xs := [.tmp 2]) Try.func58 rfl Try.ntmps58 Try.results58 rfl ?_
 have hs := St.start hO
 refine Wp_seq ?_
 refine Wp_region ?_
 refine Rg_op rfl (op_assign (v := (Value.int .i64 0)) rfl ?_)
 refine Rg_nil ?_
 refine Wp_seq ?_
 refine Wp_region ?_
 refine Rg_op rfl (op_assign (v := (Value.int .i64 0)) rfl ?_)
 refine Rg_nil ?_
 refine Wp_seq ?_
 refine Wp_seq ?_
 refine Wp_region ?_
 refine Rg_op rfl (op_assign (v := (Value.int .i64 0)) rfl ?_)
 refine Rg_nil ?_
 refine Wp_block ?_
 refine Wp_reset [] [(0, (Value.slice a_l l.length c_l)), (3, (Value.int .i64 0)), (4, (Value.int .i64 0))] rfl ⟨rfl, rfl, rfl, trivial⟩ fun ξ3 => ?_
 refine Wp_loopM [3, 4, 5, 6, 7, 8, 9, 10, 11, 12, 13, 14, 15, 16, 17, 18] (fun m fr w' => ∃ (n_1 : Int) (i_1 : Int) (Ebs : Ents), Ebs = [] ∧ fr [] [(3, (Value.int .i64 n_1)), (4, (Value.int .i64 i_1))] ∧ Step (ks [] O) w (ks Ebs O) w' ∧ St ⟨w, [], []⟩ O w' Ebs ∧ InK .i64 n_1 ∧ InK .i64 i_1 ∧ loop2 (m58_overflightref45_Used_B0 l) m n_1 i_1 = some x) (((l.length : Int) - 0).toNat + 1) ⟨0, 0, _, rfl, ⟨Out.refl _ _, rfl, rfl, rfl, trivial⟩, Step.refl _ _, hs, (show InK .i64 0 from by decide), (show InK .i64 0 from by decide), hm⟩ ?_ ?_
 · rintro _ _ ⟨_, _, _, _, _, _, _, _, _, hm⟩; exact loop2_z hm
 ·
  rintro m7 K6 hK6 ρ12 w8 ⟨n_1, i_1, Ebs, hEbs, hfr11, hst10, hs9, r_y1, r_y2, hm⟩
  obtain ⟨sf4, hsf5, hm⟩ := loop2_s hm; unfold m58_overflightref45_Used_B0 at hm
  subst hEbs; rw [hfr11.eq]; clear hfr11
  replace f_l := f_l.step hst10
  have ch13 := hst10
  refine Wp_seq ?_
  refine Wp_seq ?_
  refine Wp_region ?_
  refine Rg_op rfl (op_move (v := (Value.int .i64 i_1)) rfl ?_)
  refine Rg_op rfl (op_move (v := (Value.slice a_l l.length c_l)) rfl ?_)
  refine Rg_op rfl (op_len Try.underlying22 rfl ?_)
  have rl14 := inK_len f_l
  refine Rg_op rfl (op_lss rfl rfl ?_)
  refine Rg_nil ?_
  refine Wp_cond rfl (fun hc15 => ?_) (fun hc15 => ?_)
  ·
   replace hm := bif_t hm hc15
   refine Wp_skip ?_
   refine Wp_seq ?_
   refine Wp_block ?_
   refine Wp_region ?_
   refine Rg_op rfl (op_move (v := (Value.int .i64 n_1)) rfl ?_)
   refine Rg_op rfl (op_move (v := (Value.slice a_l l.length c_l)) rfl ?_)
   refine Rg_op rfl (op_move (v := (Value.int .i64 i_1)) rfl ?_)
   replace hm := ck_some hm; obtain ⟨hc16, hm⟩ := hm
   refine Rg_op rfl (op_indexAddr (q := (rSl rU8)) ty22 ty41 rfl rfl f_l rfl hc16.1 hc16.2 ?_)
   intro p17 f18
   refine Rg_op rfl (op_loadP ty41 rfl f18 rfl ?_)
   intro v19 h20
   obtain ⟨a_y21, c_y21, rfl, f_y21⟩ := un_sl h20
   refine Rg_op rfl (op_len Try.underlying41 rfl ?_)
   have rl22 := inK_len f_y21
   replace hm := bd hm; obtain ⟨sectors_1, hv23, hm⟩ := hm
   refine Rg_op rfl (op_call Try.call57 (c57_overflightref45_Sectors (n := ((l.getD i_1.toNat default).length : Int)) hs9.ltw rl22 hv23) rfl ?_)
   rintro v24 w25 ⟨hx26, h27⟩
   have hs28 := hs9.call hx26
   have p29 := Step.ext (O := ks [] O) hx26
   clear hx26
   replace f_l := f_l.step p29; replace f18 := f18.step p29; replace f_y21 := f_y21.step p29; replace ch13 := ch13.trans p29; clear p29 hs9
   obtain ⟨rfl, r_y30⟩ := h27
   refine Rg_op rfl (op_addw rfl rfl ?_)
   refine Rg_op rfl (op_assign (v := (Value.int .i64 (IntKind.wrap .i64 (n_1 + sectors_1)))) rfl ?_)
   refine Rg_nil ?_
   clear f18 f_y21
   refine Wp_region ?_
   refine Rg_op rfl (op_move (v := (Value.int .i64 i_1)) rfl ?_)
   refine Rg_op rfl (op_addw rfl rfl ?_)
   refine Rg_op rfl (op_assign (v := (Value.int .i64 (IntKind.wrap .i64 (i_1 + 1)))) rfl ?_)
   refine Rg_nil ?_
   exact hK6 _ _ ⟨(IntKind.wrap .i64 (n_1 + sectors_1)), (IntKind.wrap .i64 (i_1 + 1)), _, rfl, ⟨(by repeat (first | with_reducible exact Out.refl _ _ | refine Out.upd ?_ rfl | refine Out.updL ?_ rfl | refine Out.mix' ?_ rfl | exact Out.refl _ _)), rfl, rfl, rfl, trivial⟩, ch13, hs28, (inK_wrap .i64 _), (inK_wrap .i64 _), jnE2 hsf5 hm⟩
  ·
   replace hm := bif_f hm hc15
   refine Wp_exit ?_
   refine Wp_seq ?_
   clear f_l
   refine Wp_region ?_
   refine Rg_op rfl (op_move (v := (Value.int .i64 n_1)) rfl ?_)
   refine Rg_op rfl (op_assign (v := (Value.int .i64 n_1)) rfl ?_)
   refine Rg_nil ?_
   refine Wp_ret ?_
   have hz := step_all hs9
   refine ⟨_, (show Closes [] _ _ from rfl), [(Value.int .i64 n_1)], ⟨rfl, trivial⟩, hs9.ext, ?_⟩
   exact Vr.eq (a := (vI .i64)) (x := n_1) ⟨rfl, r_y1⟩ (Option.some.inj hm)

end Go.Fx



set_option linter.unusedVariables false
set_option linter.unusedSimpArgs false
set_option maxRecDepth 100000
set_option maxHeartbeats 0
namespace Go.Fx
open Go Go.RowKit Go.Proofs
def m33_overflightref45_Check (l : XJournal) : Option Int :=
 jn (fun (v_1 : Bool) =>
  bif v_1 then
   some 1
  else
   some 0)
 (fun k8 =>
  bif (decide (l.many < 1)) then
   k8 true
  else
   bif (decide (4096 < l.many)) then
    k8 true
   else
    bif (decide (l.synced < 0)) then
     k8 true
    else
     bif (decide ((l.records.length : Int) < l.synced)) then
      k8 true
     else
      (m58_overflightref45_Used l.records).bind fun used_1 =>
      k8 (decide (l.many < used_1)))

theorem c33_overflightref45_Check {w : World} {O : List Nat} {l : XJournal} {a_l_records : Option Addr} {c_l_records : Nat} (hO : ∀ k ∈ O, k < w.heap.size) (f_l_records : SlR (rSl rU8) w O a_l_records c_l_records l.records) (r_l_many : InK .i64 l.many) (r_l_synced : InK .i64 l.synced) {x : Int} (hm : m33_overflightref45_Check l = some x) :
  Ok Try.prog 33 [(Value.agg [(Value.slice a_l_records l.records.length c_l_records), (Value.int .i64 l.many), (Value.int .i64 l.synced)].toArray)] w O (vI .i64) x := by
 unfold m33_overflightref45_Check at hm
 refine Fn_of_Wp (n := 32) (xs := [.tmp 2]) Try.func33 rfl Try.ntmps33 Try.results33 rfl ?_
 have hs := St.start hO
 refine Wp_seq ?_
 refine Wp_region ?_
 refine Rg_op rfl (op_box (cs := [(Value.slice a_l_records l.records.length c_l_records), (Value.int .i64 l.many), (Value.int .i64 l.synced)]) hs rfl rfl ?_)
 intro b1 w2 _ p3 hs4
 replace f_l_records := f_l_records.step p3; clear p3
 refine Rg_op rfl (op_assign (v := (Value.int .i64 0)) rfl ?_)
 refine Rg_nil ?_
 refine Wp_seq ?_
 refine Wp_reset [] [(1, (Value.pointer (some ⟨b1, 0, none⟩)))] rfl ⟨rfl, trivial⟩ fun ξ6 => ?_
 replace hm := jn_elim hm; obtain ⟨k8, hk9, hm⟩ := hm
 refine Wp_seqJ [3, 4, 5, 6, 7, 8, 9, 10, 11, 12, 13, 14, 15, 16, 17, 18, 19, 20, 21, 22, 23, 24, 25, 26, 27, 28, 29, 30, 31] (fun fr w' => ∃ (v_1 : Bool) (Ebs : Ents), Ebs = [(some b1, Obj.cells [(Value.slice a_l_records l.records.length c_l_records), (Value.int .i64 l.many), (Value.int .i64 l.synced)].toArray 52)] ∧ fr [] [(31, (Value.bool v_1))] ∧ Step (ks [(some b1, Obj.cells [(Value.slice a_l_records l.records.length c_l_records), (Value.int .i64 l.many), (Value.int .i64 l.synced)].toArray 52)] O) w2 (ks Ebs O) w' ∧ St ⟨w, [], []⟩ O w' Ebs ∧ k8 v_1 = some x) ?_ ?_
 ·
  rintro ρ15 w11 ⟨v_1, Ebs, hEbs, hfr14, hst13, hs12, hm⟩
  replace hm := jnE1 hk9 hm
  subst hEbs; rw [hfr14.eq]; clear hfr14
  replace f_l_records := f_l_records.step hst13; clear hst13 hs4
  refine Wp_cond rfl (fun hc16 => ?_) (fun hc16 => ?_)
  ·
   replace hm := bif_t hm hc16
   refine Wp_seq ?_
   obtain ⟨hs17, p18⟩ := hs12.sub (bs' := []) (.cons _ List.Sublist.slnil)
   clear f_l_records
   clear p18 hs12
   refine Wp_region ?_
   refine Rg_op rfl (op_assign (v := (Value.int .i64 1)) rfl ?_)
   refine Rg_nil ?_
   refine Wp_ret ?_
   have hz := step_all hs17
   refine ⟨_, (show Closes [] _ _ from rfl), [(Value.int .i64 1)], ⟨rfl, trivial⟩, hs17.ext, ?_⟩
   exact Vr.eq (a := (vI .i64)) (x := 1) ⟨rfl, (show InK .i64 1 from by decide)⟩ (Option.some.inj hm)
  ·
   replace hm := bif_f hm hc16
   refine Wp_skip ?_
   refine Wp_seq ?_
   obtain ⟨hs19, p20⟩ := hs12.sub (bs' := []) (.cons _ List.Sublist.slnil)
   clear f_l_records
   clear p20 hs12
   refine Wp_region ?_
   refine Rg_op rfl (op_assign (v := (Value.int .i64 0)) rfl ?_)
   refine Rg_nil ?_
   refine Wp_ret ?_
   have hz := step_all hs19
   refine ⟨_, (show Closes [] _ _ from rfl), [(Value.int .i64 0)], ⟨rfl, trivial⟩, hs19.ext, ?_⟩
   exact Vr.eq (a := (vI .i64)) (x := 0) ⟨rfl, (show InK .i64 0 from by decide)⟩ (Option.some.inj hm)
 ·
  intro K10 hK10
  have ch21 := Step.refl (ks [(some b1, Obj.cells [(Value.slice a_l_records l.records.length c_l_records), (Value.int .i64 l.many), (Value.int .i64 l.synced)].toArray 52)] O) w2
  refine Wp_drawR (g0 := []) (m := 27) (fl := []) (TS_inv hs4) (.inl rfl) rfl (by decide +kernel) ?_  -- 1
  refine Dw_eq (Value.pointer (some ⟨b1, 1, none⟩)) (fun ρ22 w23 g hle hi ht => ?_) ?_
  ·
   obtain ⟨-, hst, -⟩ := hle
   refine StepOp_plain (op_fieldAddr ty52 rfl ty3 (by decide) (ht 1 rfl) (rfl : _ = (⟨_, 1, none⟩ : Addr)) ?_)
   exact Goes.same hi rfl
  refine Dw_eq (Value.int .i64 l.many) (fun ρ25 w26 g hle hi ht => ?_) ?_
  ·
   obtain ⟨-, hst, -⟩ := hle
   have hsn := (Step.nx hi).1
   refine StepOp_plain (op_load (cs := [(Value.slice a_l_records l.records.length c_l_records), (Value.int .i64 l.many), (Value.int .i64 l.synced)]) (i := 0) ty3 hsn (ht 3 rfl) rfl rfl ?_)
   exact Goes.same hi rfl
  refine Dw_eq (Value.bool (decide (l.many < 1))) (fun ρ28 w29 g hle hi ht => ?_) ?_
  ·
   obtain ⟨-, hst, -⟩ := hle
   refine StepOp_plain (op_lss (ht 4 rfl) rfl ?_)
   exact Goes.same hi rfl
  refine Dw_opB (decide (l.many < 1)) (fun ρ31 w32 g hle hi ht => ?_) (fun hg34 => ?_) (fun hg34 => ?_)
  ·
   obtain ⟨-, hst, -⟩ := hle
   refine StepOp_plain (op_move (v := (Value.bool (decide (l.many < 1)))) (ht 5 rfl) ?_)
   exact Goes.same hi rfl
  ·
   replace hm := bif_t hm hg34
   refine Dw_skip (fun _ _ _ ht => wanted_x rfl (ht 6 rfl) rfl) ?_
   refine Dw_skip (fun _ _ _ ht => wanted_x rfl (ht 6 rfl) rfl) ?_
   refine Dw_skip (fun _ _ _ ht => wanted_x rfl (ht 6 rfl) rfl) ?_
   refine Dw_eq (Value.bool true) (fun ρ35 w36 g hle hi ht => ?_) ?_
   ·
    obtain ⟨-, hst, -⟩ := hle
    refine StepOp_plain (op_pick_t (v := (Value.bool true)) (ht 6 rfl) rfl ?_)
    exact Goes.same hi rfl
   refine Dw_eq (Value.bool true) (fun ρ38 w39 g hle hi ht => ?_) ?_
   ·
    obtain ⟨-, hst, -⟩ := hle
    refine StepOp_plain (op_move (v := (Value.bool true)) (ht 10 rfl) ?_)
    exact Goes.same hi rfl
   refine Dw_skip (fun _ _ _ ht => wanted_x rfl (ht 11 rfl) rfl) ?_
   refine Dw_skip (fun _ _ _ ht => wanted_x rfl (ht 11 rfl) rfl) ?_
   refine Dw_skip (fun _ _ _ ht => wanted_x rfl (ht 11 rfl) rfl) ?_
   refine Dw_eq (Value.bool true) (fun ρ41 w42 g hle hi ht => ?_) ?_
   ·
    obtain ⟨-, hst, -⟩ := hle
    refine StepOp_plain (op_pick_t (v := (Value.bool true)) (ht 11 rfl) rfl ?_)
    exact Goes.same hi rfl
   refine Dw_eq (Value.bool true) (fun ρ44 w45 g hle hi ht => ?_) ?_
   ·
    obtain ⟨-, hst, -⟩ := hle
    refine StepOp_plain (op_move (v := (Value.bool true)) (ht 15 rfl) ?_)
    exact Goes.same hi rfl
   refine Dw_skip (fun _ _ _ ht => wanted_x rfl (ht 16 rfl) rfl) ?_
   refine Dw_skip (fun _ _ _ ht => wanted_x rfl (ht 16 rfl) rfl) ?_
   refine Dw_skip (fun _ _ _ ht => wanted_x rfl (ht 16 rfl) rfl) ?_
   refine Dw_skip (fun _ _ _ ht => wanted_x rfl (ht 16 rfl) rfl) ?_
   refine Dw_skip (fun _ _ _ ht => wanted_x rfl (ht 16 rfl) rfl) ?_
   refine Dw_skip (fun _ _ _ ht => wanted_x rfl (ht 16 rfl) rfl) ?_
   refine Dw_eq (Value.bool true) (fun ρ47 w48 g hle hi ht => ?_) ?_
   ·
    obtain ⟨-, hst, -⟩ := hle
    refine StepOp_plain (op_pick_t (v := (Value.bool true)) (ht 16 rfl) rfl ?_)
    exact Goes.same hi rfl
   refine Dw_eq (Value.bool true) (fun ρ50 w51 g hle hi ht => ?_) ?_
   ·
    obtain ⟨-, hst, -⟩ := hle
    refine StepOp_plain (op_move (v := (Value.bool true)) (ht 23 rfl) ?_)
    exact Goes.same hi rfl
   refine Dw_skip (fun _ _ _ ht => wanted_x rfl (ht 24 rfl) rfl) ?_
   refine Dw_skip (fun _ _ _ ht => wanted_x rfl (ht 24 rfl) rfl) ?_
   refine Dw_skip (fun _ _ _ ht => wanted_x rfl (ht 24 rfl) rfl) ?_
   refine Dw_skip (fun _ _ _ ht => wanted_x rfl (ht 24 rfl) rfl) ?_
   refine Dw_skip (fun _ _ _ ht => wanted_x rfl (ht 24 rfl) rfl) ?_
   refine Dw_nil fun w57 g58 hl59 hi60 => ?_
   obtain ⟨-, hst61, -⟩ := hl59
   obtain ⟨hs63, p62⟩ := Step.nx hi60
   rintro _ rfl
   rintro _ rfl
   rintro _ rfl
   rintro _ rfl
   rintro _ rfl
   rintro _ rfl
   rintro _ rfl
   rintro _ rfl
   rintro _ rfl
   rintro _ rfl
   rintro _ rfl
   rintro _ rfl
   rintro _ rfl
   rintro _ rfl
   rintro _ rfl
   rintro _ rfl
   rintro _ rfl
   rintro _ rfl
   rintro _ rfl
   rintro _ rfl
   rintro _ rfl
   rintro _ rfl
   rintro _ rfl
   rintro _ rfl
   rintro _ rfl
   rintro _ rfl
   rintro _ rfl
   have p64 : Step (ks [(some b1, Obj.cells [(Value.slice a_l_records l.records.length c_l_records), (Value.int .i64 l.many), (Value.int .i64 l.synced)].toArray 52)] O) w2 (ks [(some b1, Obj.cells [(Value.slice a_l_records l.records.length c_l_records), (Value.int .i64 l.many), (Value.int .i64 l.synced)].toArray 52)] O) w57 := hst61.trans p62
   replace f_l_records := f_l_records.step p64; replace ch21 := ch21.trans p64; clear p64 hs4
   refine Rg_opx rfl (asB_ne rfl rfl) rfl ?_
   refine Rg_op rfl (op_pick_t (v := (Value.bool true)) rfl rfl ?_)
   refine Rg_nil ?_
   exact hK10 _ _ ⟨true, _, rfl, ⟨(by repeat (first | with_reducible exact Out.refl _ _ | refine Out.upd ?_ rfl | refine Out.updL ?_ rfl | refine Out.mix' ?_ rfl | exact Out.refl _ _)), rfl, rfl, trivial⟩, ch21, hs63, hm⟩
  ·
   replace hm := bif_f hm hg34
   refine Dw_eq (Value.pointer (some ⟨b1, 1, none⟩)) (fun ρ65 w66 g hle hi ht => ?_) ?_
   ·
    obtain ⟨-, hst, -⟩ := hle
    refine StepOp_g rfl (ht 6 rfl) (op_fieldAddr ty52 rfl ty3 (by decide) (ht 1 rfl) (rfl : _ = (⟨_, 1, none⟩ : Addr)) ?_)
    exact Goes.same hi rfl
   refine Dw_eq (Value.int .i64 l.many) (fun ρ68 w69 g hle hi ht => ?_) ?_
   ·
    obtain ⟨-, hst, -⟩ := hle
    have hsn := (Step.nx hi).1
    refine StepOp_g rfl (ht 6 rfl) (op_load (cs := [(Value.slice a_l_records l.records.length c_l_records), (Value.int .i64 l.many), (Value.int .i64 l.synced)]) (i := 0) ty3 hsn (ht 7 rfl) rfl rfl ?_)
    exact Goes.same hi rfl
   refine Dw_eq (Value.bool (decide (4096 < l.many))) (fun ρ71 w72 g hle hi ht => ?_) ?_
   ·
    obtain ⟨-, hst, -⟩ := hle
    refine StepOp_g rfl (ht 6 rfl) (op_gtr (ht 8 rfl) rfl ?_)
    exact Goes.same hi rfl
   refine Dw_eq (Value.bool (decide (4096 < l.many))) (fun ρ74 w75 g hle hi ht => ?_) ?_
   ·
    obtain ⟨-, hst, -⟩ := hle
    refine StepOp_plain (op_pick_f (v := (Value.bool (decide (4096 < l.many)))) (ht 6 rfl) (ht 9 rfl) ?_)
    exact Goes.same hi rfl
   refine Dw_opB (decide (4096 < l.many)) (fun ρ77 w78 g hle hi ht => ?_) (fun hg80 => ?_) (fun hg80 => ?_)
   ·
    obtain ⟨-, hst, -⟩ := hle
    refine StepOp_plain (op_move (v := (Value.bool (decide (4096 < l.many)))) (ht 10 rfl) ?_)
    exact Goes.same hi rfl
   ·
    replace hm := bif_t hm hg80
    refine Dw_skip (fun _ _ _ ht => wanted_x rfl (ht 11 rfl) rfl) ?_
    refine Dw_skip (fun _ _ _ ht => wanted_x rfl (ht 11 rfl) rfl) ?_
    refine Dw_skip (fun _ _ _ ht => wanted_x rfl (ht 11 rfl) rfl) ?_
    refine Dw_eq (Value.bool true) (fun ρ81 w82 g hle hi ht => ?_) ?_
    ·
     obtain ⟨-, hst, -⟩ := hle
     refine StepOp_plain (op_pick_t (v := (Value.bool true)) (ht 11 rfl) rfl ?_)
     exact Goes.same hi rfl
    refine Dw_eq (Value.bool true) (fun ρ84 w85 g hle hi ht => ?_) ?_
    ·
     obtain ⟨-, hst, -⟩ := hle
     refine StepOp_plain (op_move (v := (Value.bool true)) (ht 15 rfl) ?_)
     exact Goes.same hi rfl
    refine Dw_skip (fun _ _ _ ht => wanted_x rfl (ht 16 rfl) rfl) ?_
    refine Dw_skip (fun _ _ _ ht => wanted_x rfl (ht 16 rfl) rfl) ?_
    refine Dw_skip (fun _ _ _ ht => wanted_x rfl (ht 16 rfl) rfl) ?_
    refine Dw_skip (fun _ _ _ ht => wanted_x rfl (ht 16 rfl) rfl) ?_
    refine Dw_skip (fun _ _ _ ht => wanted_x rfl (ht 16 rfl) rfl) ?_
    refine Dw_skip (fun _ _ _ ht => wanted_x rfl (ht 16 rfl) rfl) ?_
    refine Dw_eq (Value.bool true) (fun ρ87 w88 g hle hi ht => ?_) ?_
    ·
     obtain ⟨-, hst, -⟩ := hle
     refine StepOp_plain (op_pick_t (v := (Value.bool true)) (ht 16 rfl) rfl ?_)
     exact Goes.same hi rfl
    refine Dw_eq (Value.bool true) (fun ρ90 w91 g hle hi ht => ?_) ?_
    ·
     obtain ⟨-, hst, -⟩ := hle
     refine StepOp_plain (op_move (v := (Value.bool true)) (ht 23 rfl) ?_)
     exact Goes.same hi rfl
    refine Dw_skip (fun _ _ _ ht => wanted_x rfl (ht 24 rfl) rfl) ?_
    refine Dw_skip (fun _ _ _ ht => wanted_x rfl (ht 24 rfl) rfl) ?_
    refine Dw_skip (fun _ _ _ ht => wanted_x rfl (ht 24 rfl) rfl) ?_
    refine Dw_skip (fun _ _ _ ht => wanted_x rfl (ht 24 rfl) rfl) ?_
    refine Dw_skip (fun _ _ _ ht => wanted_x rfl (ht 24 rfl) rfl) ?_
    refine Dw_nil fun w97 g98 hl99 hi100 => ?_
    obtain ⟨-, hst101, -⟩ := hl99
    obtain ⟨hs103, p102⟩ := Step.nx hi100
    rintro _ rfl
    rintro _ rfl
    rintro _ rfl
    rintro _ rfl
    rintro _ rfl
    rintro _ rfl
    rintro _ rfl
    rintro _ rfl
    rintro _ rfl
    rintro _ rfl
    rintro _ rfl
    rintro _ rfl
    rintro _ rfl
    rintro _ rfl
    rintro _ rfl
    rintro _ rfl
    rintro _ rfl
    rintro _ rfl
    rintro _ rfl
    rintro _ rfl
    rintro _ rfl
    rintro _ rfl
    rintro _ rfl
    rintro _ rfl
    rintro _ rfl
    rintro _ rfl
    rintro _ rfl
    have p104 : Step (ks [(some b1, Obj.cells [(Value.slice a_l_records l.records.length c_l_records), (Value.int .i64 l.many), (Value.int .i64 l.synced)].toArray 52)] O) w2 (ks [(some b1, Obj.cells [(Value.slice a_l_records l.records.length c_l_records), (Value.int .i64 l.many), (Value.int .i64 l.synced)].toArray 52)] O) w97 := hst101.trans p102
    replace f_l_records := f_l_records.step p104; replace ch21 := ch21.trans p104; clear p104 hs4
    refine Rg_opx rfl (asB_ne rfl rfl) rfl ?_
    refine Rg_op rfl (op_pick_t (v := (Value.bool true)) rfl rfl ?_)
    refine Rg_nil ?_
    exact hK10 _ _ ⟨true, _, rfl, ⟨(by repeat (first | with_reducible exact Out.refl _ _ | refine Out.upd ?_ rfl | refine Out.updL ?_ rfl | refine Out.mix' ?_ rfl | exact Out.refl _ _)), rfl, rfl, trivial⟩, ch21, hs103, hm⟩
   ·
    replace hm := bif_f hm hg80
    refine Dw_eq (Value.pointer (some ⟨b1, 2, none⟩)) (fun ρ105 w106 g hle hi ht => ?_) ?_
    ·
     obtain ⟨-, hst, -⟩ := hle
     refine StepOp_g rfl (ht 11 rfl) (op_fieldAddr ty52 rfl ty3 (by decide) (ht 1 rfl) (rfl : _ = (⟨_, 2, none⟩ : Addr)) ?_)
     exact Goes.same hi rfl
    refine Dw_eq (Value.int .i64 l.synced) (fun ρ108 w109 g hle hi ht => ?_) ?_
    ·
     obtain ⟨-, hst, -⟩ := hle
     have hsn := (Step.nx hi).1
     refine StepOp_g rfl (ht 11 rfl) (op_load (cs := [(Value.slice a_l_records l.records.length c_l_records), (Value.int .i64 l.many), (Value.int .i64 l.synced)]) (i := 0) ty3 hsn (ht 12 rfl) rfl rfl ?_)
     exact Goes.same hi rfl
    refine Dw_eq (Value.bool (decide (l.synced < 0))) (fun ρ111 w112 g hle hi ht => ?_) ?_
    ·
     obtain ⟨-, hst, -⟩ := hle
     refine StepOp_g rfl (ht 11 rfl) (op_lss (ht 13 rfl) rfl ?_)
     exact Goes.same hi rfl
    refine Dw_eq (Value.bool (decide (l.synced < 0))) (fun ρ114 w115 g hle hi ht => ?_) ?_
    ·
     obtain ⟨-, hst, -⟩ := hle
     refine StepOp_plain (op_pick_f (v := (Value.bool (decide (l.synced < 0)))) (ht 11 rfl) (ht 14 rfl) ?_)
     exact Goes.same hi rfl
    refine Dw_opB (decide (l.synced < 0)) (fun ρ117 w118 g hle hi ht => ?_) (fun hg120 => ?_) (fun hg120 => ?_)
    ·
     obtain ⟨-, hst, -⟩ := hle
     refine StepOp_plain (op_move (v := (Value.bool (decide (l.synced < 0)))) (ht 15 rfl) ?_)
     exact Goes.same hi rfl
    ·
     replace hm := bif_t hm hg120
     refine Dw_skip (fun _ _ _ ht => wanted_x rfl (ht 16 rfl) rfl) ?_
     refine Dw_skip (fun _ _ _ ht => wanted_x rfl (ht 16 rfl) rfl) ?_
     refine Dw_skip (fun _ _ _ ht => wanted_x rfl (ht 16 rfl) rfl) ?_
     refine Dw_skip (fun _ _ _ ht => wanted_x rfl (ht 16 rfl) rfl) ?_
     refine Dw_skip (fun _ _ _ ht => wanted_x rfl (ht 16 rfl) rfl) ?_
     refine Dw_skip (fun _ _ _ ht => wanted_x rfl (ht 16 rfl) rfl) ?_
     refine Dw_eq (Value.bool true) (fun ρ121 w122 g hle hi ht => ?_) ?_
     ·
      obtain ⟨-, hst, -⟩ := hle
      refine StepOp_plain (op_pick_t (v := (Value.bool true)) (ht 16 rfl) rfl ?_)
      exact Goes.same hi rfl
     refine Dw_eq (Value.bool true) (fun ρ124 w125 g hle hi ht => ?_) ?_
     ·
      obtain ⟨-, hst, -⟩ := hle
      refine StepOp_plain (op_move (v := (Value.bool true)) (ht 23 rfl) ?_)
      exact Goes.same hi rfl
     refine Dw_skip (fun _ _ _ ht => wanted_x rfl (ht 24 rfl) rfl) ?_
     refine Dw_skip (fun _ _ _ ht => wanted_x rfl (ht 24 rfl) rfl) ?_
     refine Dw_skip (fun _ _ _ ht => wanted_x rfl (ht 24 rfl) rfl) ?_
     refine Dw_skip (fun _ _ _ ht => wanted_x rfl (ht 24 rfl) rfl) ?_
     refine Dw_skip (fun _ _ _ ht => wanted_x rfl (ht 24 rfl) rfl) ?_
     refine Dw_nil fun w131 g132 hl133 hi134 => ?_
     obtain ⟨-, hst135, -⟩ := hl133
     obtain ⟨hs137, p136⟩ := Step.nx hi134
     rintro _ rfl
     rintro _ rfl
     rintro _ rfl
     rintro _ rfl
     rintro _ rfl
     rintro _ rfl
     rintro _ rfl
     rintro _ rfl
     rintro _ rfl
     rintro _ rfl
     rintro _ rfl
     rintro _ rfl
     rintro _ rfl
     rintro _ rfl
     rintro _ rfl
     rintro _ rfl
     rintro _ rfl
     rintro _ rfl
     rintro _ rfl
     rintro _ rfl
     rintro _ rfl
     rintro _ rfl
     rintro _ rfl
     rintro _ rfl
     rintro _ rfl
     rintro _ rfl
     rintro _ rfl
     have p138 : Step (ks [(some b1, Obj.cells [(Value.slice a_l_records l.records.length c_l_records), (Value.int .i64 l.many), (Value.int .i64 l.synced)].toArray 52)] O) w2 (ks [(some b1, Obj.cells [(Value.slice a_l_records l.records.length c_l_records), (Value.int .i64 l.many), (Value.int .i64 l.synced)].toArray 52)] O) w131 := hst135.trans p136
     replace f_l_records := f_l_records.step p138; replace ch21 := ch21.trans p138; clear p138 hs4
     refine Rg_opx rfl (asB_ne rfl rfl) rfl ?_
     refine Rg_op rfl (op_pick_t (v := (Value.bool true)) rfl rfl ?_)
     refine Rg_nil ?_
     exact hK10 _ _ ⟨true, _, rfl, ⟨(by repeat (first | with_reducible exact Out.refl _ _ | refine Out.upd ?_ rfl | refine Out.updL ?_ rfl | refine Out.mix' ?_ rfl | exact Out.refl _ _)), rfl, rfl, trivial⟩, ch21, hs137, hm⟩
    ·
     replace hm := bif_f hm hg120
     refine Dw_eq (Value.pointer (some ⟨b1, 2, none⟩)) (fun ρ139 w140 g hle hi ht => ?_) ?_
     ·
      obtain ⟨-, hst, -⟩ := hle
      refine StepOp_g rfl (ht 16 rfl) (op_fieldAddr ty52 rfl ty3 (by decide) (ht 1 rfl) (rfl : _ = (⟨_, 2, none⟩ : Addr)) ?_)
      exact Goes.same hi rfl
     refine Dw_eq (Value.int .i64 l.synced) (fun ρ142 w143 g hle hi ht => ?_) ?_
     ·
      obtain ⟨-, hst, -⟩ := hle
      have hsn := (Step.nx hi).1
      refine StepOp_g rfl (ht 16 rfl) (op_load (cs := [(Value.slice a_l_records l.records.length c_l_records), (Value.int .i64 l.many), (Value.int .i64 l.synced)]) (i := 0) ty3 hsn (ht 17 rfl) rfl rfl ?_)
      exact Goes.same hi rfl
     refine Dw_eq (Value.pointer (some ⟨b1, 0, none⟩)) (fun ρ145 w146 g hle hi ht => ?_) ?_
     ·
      obtain ⟨-, hst, -⟩ := hle
      refine StepOp_g rfl (ht 16 rfl) (op_fieldAddr ty52 rfl ty22 (by decide) (ht 1 rfl) (rfl : _ = (⟨_, 0, none⟩ : Addr)) ?_)
      exact Goes.same hi rfl
     refine Dw_eq (Value.slice a_l_records l.records.length c_l_records) (fun ρ148 w149 g hle hi ht => ?_) ?_
     ·
      obtain ⟨-, hst, -⟩ := hle
      have hsn := (Step.nx hi).1
      refine StepOp_g rfl (ht 16 rfl) (op_load (cs := [(Value.slice a_l_records l.records.length c_l_records), (Value.int .i64 l.many), (Value.int .i64 l.synced)]) (i := 0) ty22 hsn (ht 19 rfl) rfl rfl ?_)
      exact Goes.same hi rfl
     refine Dw_eq (Value.int .i64 (l.records.length : Int)) (fun ρ151 w152 g hle hi ht => ?_) ?_
     ·
      obtain ⟨-, hst, -⟩ := hle
      refine StepOp_g rfl (ht 16 rfl) (op_len Try.underlying22 (ht 20 rfl) ?_)
      exact Goes.same hi rfl
     refine Dw_eq (Value.bool (decide ((l.records.length : Int) < l.synced))) (fun ρ154 w155 g hle hi ht => ?_) ?_
     ·
      obtain ⟨-, hst, -⟩ := hle
      refine StepOp_g rfl (ht 16 rfl) (op_gtr (ht 18 rfl) (ht 21 rfl) ?_)
      exact Goes.same hi rfl
     refine Dw_eq (Value.bool (decide ((l.records.length : Int) < l.synced))) (fun ρ157 w158 g hle hi ht => ?_) ?_
     ·
      obtain ⟨-, hst, -⟩ := hle
      refine StepOp_plain (op_pick_f (v := (Value.bool (decide ((l.records.length : Int) < l.synced)))) (ht 16 rfl) (ht 22 rfl) ?_)
      exact Goes.same hi rfl
     refine Dw_opB (decide ((l.records.length : Int) < l.synced)) (fun ρ160 w161 g hle hi ht => ?_) (fun hg163 => ?_) (fun hg163 => ?_)
     ·
      obtain ⟨-, hst, -⟩ := hle
      refine StepOp_plain (op_move (v := (Value.bool (decide ((l.records.length : Int) < l.synced)))) (ht 23 rfl) ?_)
      exact Goes.same hi rfl
     ·
      replace hm := bif_t hm hg163
      refine Dw_skip (fun _ _ _ ht => wanted_x rfl (ht 24 rfl) rfl) ?_
      refine Dw_skip (fun _ _ _ ht => wanted_x rfl (ht 24 rfl) rfl) ?_
      refine Dw_skip (fun _ _ _ ht => wanted_x rfl (ht 24 rfl) rfl) ?_
      refine Dw_skip (fun _ _ _ ht => wanted_x rfl (ht 24 rfl) rfl) ?_
      refine Dw_skip (fun _ _ _ ht => wanted_x rfl (ht 24 rfl) rfl) ?_
      refine Dw_nil fun w168 g169 hl170 hi171 => ?_
      obtain ⟨-, hst172, -⟩ := hl170
      obtain ⟨hs174, p173⟩ := Step.nx hi171
      rintro _ rfl
      rintro _ rfl
      rintro _ rfl
      rintro _ rfl
      rintro _ rfl
      rintro _ rfl
      rintro _ rfl
      rintro _ rfl
      rintro _ rfl
      rintro _ rfl
      rintro _ rfl
      rintro _ rfl
      rintro _ rfl
      rintro _ rfl
      rintro _ rfl
      rintro _ rfl
      rintro _ rfl
      rintro _ rfl
      rintro _ rfl
      rintro _ rfl
      rintro _ rfl
      rintro _ rfl
      rintro _ rfl
      rintro _ rfl
      rintro _ rfl
      rintro _ rfl
      rintro _ rfl
      have p175 : Step (ks [(some b1, Obj.cells [(Value.slice a_l_records l.records.length c_l_records), (Value.int .i64 l.many), (Value.int .i64 l.synced)].toArray 52)] O) w2 (ks [(some b1, Obj.cells [(Value.slice a_l_records l.records.length c_l_records), (Value.int .i64 l.many), (Value.int .i64 l.synced)].toArray 52)] O) w168 := hst172.trans p173
      replace f_l_records := f_l_records.step p175; replace ch21 := ch21.trans p175; clear p175 hs4
      refine Rg_opx rfl (asB_ne rfl rfl) rfl ?_
      refine Rg_op rfl (op_pick_t (v := (Value.bool true)) rfl rfl ?_)
      refine Rg_nil ?_
      exact hK10 _ _ ⟨true, _, rfl, ⟨(by repeat (first | with_reducible exact Out.refl _ _ | refine Out.upd ?_ rfl | refine Out.updL ?_ rfl | refine Out.mix' ?_ rfl | exact Out.refl _ _)), rfl, rfl, trivial⟩, ch21, hs174, hm⟩
     ·
      replace hm := bif_f hm hg163
      refine Dw_eq (Value.pointer (some ⟨b1, 0, none⟩)) (fun ρ176 w177 g hle hi ht => ?_) ?_
      ·
       obtain ⟨-, hst, -⟩ := hle
       refine StepOp_g rfl (ht 24 rfl) (op_fieldAddr ty52 rfl ty22 (by decide) (ht 1 rfl) (rfl : _ = (⟨_, 0, none⟩ : Addr)) ?_)
       exact Goes.same hi rfl
      refine Dw_eq (Value.slice a_l_records l.records.length c_l_records) (fun ρ179 w180 g hle hi ht => ?_) ?_
      ·
       obtain ⟨-, hst, -⟩ := hle
       have hsn := (Step.nx hi).1
       refine StepOp_g rfl (ht 24 rfl) (op_load (cs := [(Value.slice a_l_records l.records.length c_l_records), (Value.int .i64 l.many), (Value.int .i64 l.synced)]) (i := 0) ty22 hsn (ht 25 rfl) rfl rfl ?_)
       exact Goes.same hi rfl
      replace hm := bd hm; obtain ⟨used_1, hv185, hm⟩ := hm
      refine Dw_op (VD O [(some b1, Obj.cells [(Value.slice a_l_records l.records.length c_l_records), (Value.int .i64 l.many), (Value.int .i64 l.synced)].toArray 52)] (vI .i64) used_1) (VD.stab _ _) (fun ρ182 w183 g hle hi ht => ?_) ?_
      ·
       obtain ⟨-, hst, -⟩ := hle
       replace f_l_records := f_l_records.step hst
       refine StepOp_g rfl (ht 24 rfl) (op_call Try.call58 (c58_overflightref45_Used (O := ks (ents g ++ [(some b1, Obj.cells [(Value.slice a_l_records l.records.length c_l_records), (Value.int .i64 l.many), (Value.int .i64 l.synced)].toArray 52)]) O) (l := l.records) hi.ltw f_l_records hv185) (by simp only [List.map, Array.toList, (show ev _ (.tmp 26) = _ from (ht 26 rfl))] <;> rfl) ?_)
       rintro v186 w187 ⟨hx188, h189⟩
       exact Goes.call hi hx188 h189
      refine Dw_eq (Value.pointer (some ⟨b1, 1, none⟩)) (fun ρ191 w192 g hle hi ht => ?_) ?_
      ·
       obtain ⟨-, hst, -⟩ := hle
       refine StepOp_g rfl (ht 24 rfl) (op_fieldAddr ty52 rfl ty3 (by decide) (ht 1 rfl) (rfl : _ = (⟨_, 1, none⟩ : Addr)) ?_)
       exact Goes.same hi rfl
      refine Dw_eq (Value.int .i64 l.many) (fun ρ194 w195 g hle hi ht => ?_) ?_
      ·
       obtain ⟨-, hst, -⟩ := hle
       have hsn := (Step.nx hi).1
       refine StepOp_g rfl (ht 24 rfl) (op_load (cs := [(Value.slice a_l_records l.records.length c_l_records), (Value.int .i64 l.many), (Value.int .i64 l.synced)]) (i := 0) ty3 hsn (ht 28 rfl) rfl rfl ?_)
       exact Goes.same hi rfl
      refine Dw_nil fun w201 g202 hl203 hi204 => ?_
      obtain ⟨-, hst205, -⟩ := hl203
      obtain ⟨hs207, p206⟩ := Step.nx hi204
      rintro _ rfl
      rintro _ rfl
      rintro v208 h209
      replace h209 : Vr.vd (vI .i64) _ _ _ _ := h209
      obtain ⟨rfl, r_y210⟩ := h209
      rintro _ rfl
      rintro _ rfl
      rintro _ rfl
      rintro _ rfl
      rintro _ rfl
      rintro _ rfl
      rintro _ rfl
      rintro _ rfl
      rintro _ rfl
      rintro _ rfl
      rintro _ rfl
      rintro _ rfl
      rintro _ rfl
      rintro _ rfl
      rintro _ rfl
      rintro _ rfl
      rintro _ rfl
      rintro _ rfl
      rintro _ rfl
      rintro _ rfl
      rintro _ rfl
      rintro _ rfl
      rintro _ rfl
      rintro _ rfl
      have p211 : Step (ks [(some b1, Obj.cells [(Value.slice a_l_records l.records.length c_l_records), (Value.int .i64 l.many), (Value.int .i64 l.synced)].toArray 52)] O) w2 (ks [(some b1, Obj.cells [(Value.slice a_l_records l.records.length c_l_records), (Value.int .i64 l.many), (Value.int .i64 l.synced)].toArray 52)] O) w201 := hst205.trans p206
      replace f_l_records := f_l_records.step p211; replace ch21 := ch21.trans p211; clear p211 hs4
      refine Rg_opg rfl rfl rfl (op_gtr rfl rfl ?_)
      refine Rg_op rfl (op_pick_f (v := (Value.bool (decide (l.many < used_1)))) rfl rfl ?_)
      refine Rg_nil ?_
      exact hK10 _ _ ⟨(decide (l.many < used_1)), _, rfl, ⟨(by repeat (first | with_reducible exact Out.refl _ _ | refine Out.upd ?_ rfl | refine Out.updL ?_ rfl | refine Out.mix' ?_ rfl | exact Out.refl _ _)), rfl, rfl, trivial⟩, ch21, hs207, hm⟩

end Go.Fx



set_option linter.unusedVariables false
set_option linter.unusedSimpArgs false
set_option maxRecDepth 100000
set_option maxHeartbeats 0
namespace Go.Fx
open Go Go.RowKit Go.Proofs
def m31_overflightref45_Append (l : XJournal) (b : List UInt8) : Option (XJournal × Int) :=
 (m33_overflightref45_Check l).bind fun check_1 =>
 bif (decide (check_1 ≠ 0)) then
  some ((⟨([] : List (List UInt8)), 0, 0⟩ : XJournal), check_1)
 else
  (m57_overflightref45_Sectors (b.length : Int)).bind fun sectors_1 =>
  (m58_overflightref45_Used l.records).bind fun used_1 =>
  bif (decide ((IntKind.wrap .i64 (l.many - used_1)) < sectors_1)) then
   some ((⟨([] : List (List UInt8)), 0, 0⟩ : XJournal), 2)
  else
   ck ((([] : List (List UInt8)).length + l.records.length) * 24 ≤ 140737488355328) <|
   ck (((([] : List (List UInt8)) ++ l.records).length + [b].length) * 24 ≤ 140737488355328) <|
   some ((⟨((([] : List (List UInt8)) ++ l.records) ++ [b]), l.many, l.synced⟩ : XJournal), 0)

theorem c31_overflightref45_Append {w : World} {O : List Nat} {l : XJournal} {b : List UInt8} {a_l_records : Option Addr} {c_l_records : Nat} {a_b : Option Addr} {c_b : Nat} (hO : ∀ k ∈ O, k < w.heap.size) (f_l_records : SlR (rSl rU8) w O a_l_records c_l_records l.records) (r_l_many : InK .i64 l.many) (r_l_synced : InK .i64 l.synced) (f_b : SlR rU8 w O a_b c_b b) {x : XJournal × Int} (hm : m31_overflightref45_Append l b = some x) :
  Ok Try.prog 31 [(Value.agg [(Value.slice a_l_records l.records.length c_l_records), (Value.int .i64 l.many), (Value.int .i64 l.synced)].toArray), (Value.slice a_b b.length c_b)] w O (vT2 (vA rXJournal) (vI .i64)) x := by
 unfold m31_overflightref45_Append at hm
 refine Fn_of_Wp (n := 33) (xs := [.cell 4 52, .tmp 5]) Try.func31 rfl Try.ntmps31 Try.results31 rfl ?_
 have hs := St.start hO
 refine Wp_seq ?_
 refine Wp_region ?_
 refine Rg_op rfl (op_box (cs := [(Value.slice a_l_records l.records.length c_l_records), (Value.int .i64 l.many), (Value.int .i64 l.synced)]) hs rfl rfl ?_)
 intro b1 w2 _ p3 hs4
 replace f_l_records := f_l_records.step p3; replace f_b := f_b.step p3; clear p3
 refine Rg_op rfl (op_alloc ty52 hs4 ?_)
 intro b6 w7 _ p8 hs9
 replace f_l_records := f_l_records.step p8; replace f_b := f_b.step p8; clear p8 hs4
 refine Rg_op rfl (op_assign (v := (Value.int .i64 0)) rfl ?_)
 refine Rg_nil ?_
 refine Wp_seq ?_
 refine Wp_region ?_
 refine Rg_op rfl (op_loadA (cs := [(Value.slice a_l_records l.records.length c_l_records), (Value.int .i64 l.many), (Value.int .i64 l.synced)]) (vs := [(Value.slice a_l_records l.records.length c_l_records), (Value.int .i64 l.many), (Value.int .i64 l.synced)]) (i := 1) ty52 hs9 rfl rfl rfl rfl ?_)
 replace hm := bd hm; obtain ⟨check_1, hv11, hm⟩ := hm
 refine Rg_op rfl (op_call Try.call33 (c33_overflightref45_Check (l := l) hs9.ltw f_l_records r_l_many r_l_synced hv11) rfl ?_)
 rintro v12 w13 ⟨hx14, h15⟩
 have hs16 := hs9.call hx14
 have p17 := Step.ext (O := ks [(some b6, Obj.cells [(Value.slice none 0 0), (Value.int .i64 0), (Value.int .i64 0)].toArray 52), (some b1, Obj.cells [(Value.slice a_l_records l.records.length c_l_records), (Value.int .i64 l.many), (Value.int .i64 l.synced)].toArray 52)] O) hx14
 clear hx14
 replace f_l_records := f_l_records.step p17; replace f_b := f_b.step p17; clear p17 hs9
 obtain ⟨rfl, r_y18⟩ := h15
 refine Rg_op rfl (op_assign (v := (Value.int .i64 check_1)) rfl ?_)
 refine Rg_nil ?_
 refine Wp_seq ?_
 refine Wp_seq ?_
 refine Wp_region ?_
 refine Rg_op rfl (op_move (v := (Value.int .i64 check_1)) rfl ?_)
 refine Rg_op rfl (op_neq rfl rfl ?_)
 refine Rg_nil ?_
 refine Wp_cond rfl (fun hc19 => ?_) (fun hc19 => ?_)
 ·
  replace hm := bif_t hm hc19
  refine Wp_seq ?_
  obtain ⟨hs20, p21⟩ := hs16.sub (bs' := [(some b6, Obj.cells [(Value.slice none 0 0), (Value.int .i64 0), (Value.int .i64 0)].toArray 52)]) (.cons_cons _ (.cons _ List.Sublist.slnil))
  clear f_l_records f_b
  clear p21 hs16
  refine Wp_region ?_
  refine Rg_op rfl (op_build (vs := [(Value.slice none 0 0), (Value.int .i64 0), (Value.int .i64 0)]) (parts := []) ty52 pl52 rfl ?_)
  refine Rg_op rfl (op_move (v := (Value.int .i64 check_1)) rfl ?_)
  refine Rg_op_ (op_store (cs := [(Value.slice none 0 0), (Value.int .i64 0), (Value.int .i64 0)]) (vs := [(Value.slice none 0 0), (Value.int .i64 0), (Value.int .i64 0)]) (cs' := [(Value.slice none 0 0), (Value.int .i64 0), (Value.int .i64 0)]) (bs' := [(some b6, Obj.cells [(Value.slice none 0 0), (Value.int .i64 0), (Value.int .i64 0)].toArray 52)]) (i := 0) ty52 hs20 rfl rfl rfl rfl rfl (le_lit rfl) rfl rfl rfl ?_)
  intro w22 p23 hs24
  clear p23 hs20
  refine Rg_op rfl (op_assign (v := (Value.int .i64 check_1)) rfl ?_)
  refine Rg_nil ?_
  refine Wp_ret ?_
  have hz := step_all hs24
  refine ⟨_, (show Closes [] _ _ from rfl), [(Value.agg [(Value.slice none 0 0), (Value.int .i64 0), (Value.int .i64 0)].toArray), (Value.int .i64 check_1)], ⟨resA (cs := [(Value.slice none 0 0), (Value.int .i64 0), (Value.int .i64 0)]) (vs := [(Value.slice none 0 0), (Value.int .i64 0), (Value.int .i64 0)]) ty52 (i := 0) hs24 rfl rfl rfl rfl, rfl, trivial⟩, hs24.ext, ?_⟩
  exact Vr.eq (a := (vT2 (vA rXJournal) (vI .i64))) (x := ((⟨([] : List (List UInt8)), 0, 0⟩ : XJournal), check_1)) (mkT2 (mkA (mkVia (mk_pair (mk_sl SlR.nil_) (mk_pair (mk_int (show InK .i64 0 from by decide)) (mk_int (show InK .i64 0 from by decide)))))) ⟨rfl, r_y18⟩) (Option.some.inj hm)
 ·
  replace hm := bif_f hm hc19
  refine Wp_skip ?_
  refine Wp_seq ?_
  refine Wp_seq ?_
  refine Wp_drawR (g0 := []) (m := 8) (fl := []) (TS_inv hs16) (.inl rfl) rfl (by decide +kernel) ?_  -- 4
  refine Dw_eq (Value.slice a_b b.length c_b) (fun ρ25 w26 g hle hi ht => ?_) ?_
  ·
   obtain ⟨-, hst, -⟩ := hle
   refine StepOp_plain (op_move (v := (Value.slice a_b b.length c_b)) (ht 1 rfl) ?_)
   exact Goes.same hi rfl
  refine Dw_eq (Value.int .i64 (b.length : Int)) (fun ρ28 w29 g hle hi ht => ?_) ?_
  ·
   obtain ⟨-, hst, -⟩ := hle
   refine StepOp_plain (op_len Try.underlying41 (ht 13 rfl) ?_)
   exact Goes.same hi rfl
  replace hm := bd hm; obtain ⟨sectors_1, hv34, hm⟩ := hm
  refine Dw_op (VD O [(some b6, Obj.cells [(Value.slice none 0 0), (Value.int .i64 0), (Value.int .i64 0)].toArray 52), (some b1, Obj.cells [(Value.slice a_l_records l.records.length c_l_records), (Value.int .i64 l.many), (Value.int .i64 l.synced)].toArray 52)] (vI .i64) sectors_1) (VD.stab _ _) (fun ρ31 w32 g hle hi ht => ?_) ?_
  ·
   obtain ⟨-, hst, -⟩ := hle
   replace f_b := f_b.step hst
   refine StepOp_plain (op_call Try.call57 (c57_overflightref45_Sectors (O := ks (ents g ++ [(some b6, Obj.cells [(Value.slice none 0 0), (Value.int .i64 0), (Value.int .i64 0)].toArray 52), (some b1, Obj.cells [(Value.slice a_l_records l.records.length c_l_records), (Value.int .i64 l.many), (Value.int .i64 l.synced)].toArray 52)]) O) (n := (b.length : Int)) hi.ltw (inK_len f_b) hv34) (by simp only [List.map, Array.toList, (show ev _ (.tmp 14) = _ from (ht 14 rfl))] <;> rfl) ?_)
   rintro v35 w36 ⟨hx37, h38⟩
   exact Goes.call hi hx37 h38
  refine Dw_eq (Value.pointer (some ⟨b1, 1, none⟩)) (fun ρ40 w41 g hle hi ht => ?_) ?_
  ·
   obtain ⟨-, hst, -⟩ := hle
   refine StepOp_plain (op_fieldAddr ty52 rfl ty3 (by decide) (ht 2 rfl) (rfl : _ = (⟨_, 1, none⟩ : Addr)) ?_)
   exact Goes.same hi rfl
  refine Dw_eq (Value.int .i64 l.many) (fun ρ43 w44 g hle hi ht => ?_) ?_
  ·
   obtain ⟨-, hst, -⟩ := hle
   have hsn := (Step.nx hi).1
   refine StepOp_plain (op_load (cs := [(Value.slice a_l_records l.records.length c_l_records), (Value.int .i64 l.many), (Value.int .i64 l.synced)]) (i := 1) ty3 hsn (ht 16 rfl) rfl rfl ?_)
   exact Goes.same hi rfl
  refine Dw_eq (Value.pointer (some ⟨b1, 0, none⟩)) (fun ρ46 w47 g hle hi ht => ?_) ?_
  ·
   obtain ⟨-, hst, -⟩ := hle
   refine StepOp_plain (op_fieldAddr ty52 rfl ty22 (by decide) (ht 2 rfl) (rfl : _ = (⟨_, 0, none⟩ : Addr)) ?_)
   exact Goes.same hi rfl
  refine Dw_eq (Value.slice a_l_records l.records.length c_l_records) (fun ρ49 w50 g hle hi ht => ?_) ?_
  ·
   obtain ⟨-, hst, -⟩ := hle
   have hsn := (Step.nx hi).1
   refine StepOp_plain (op_load (cs := [(Value.slice a_l_records l.records.length c_l_records), (Value.int .i64 l.many), (Value.int .i64 l.synced)]) (i := 1) ty22 hsn (ht 18 rfl) rfl rfl ?_)
   exact Goes.same hi rfl
  replace hm := bd hm; obtain ⟨used_1, hv55, hm⟩ := hm
  refine Dw_op (VD O [(some b6, Obj.cells [(Value.slice none 0 0), (Value.int .i64 0), (Value.int .i64 0)].toArray 52), (some b1, Obj.cells [(Value.slice a_l_records l.records.length c_l_records), (Value.int .i64 l.many), (Value.int .i64 l.synced)].toArray 52)] (vI .i64) used_1) (VD.stab _ _) (fun ρ52 w53 g hle hi ht => ?_) ?_
  ·
   obtain ⟨-, hst, -⟩ := hle
   replace f_l_records := f_l_records.step hst
   refine StepOp_plain (op_call Try.call58 (c58_overflightref45_Used (O := ks (ents g ++ [(some b6, Obj.cells [(Value.slice none 0 0), (Value.int .i64 0), (Value.int .i64 0)].toArray 52), (some b1, Obj.cells [(Value.slice a_l_records l.records.length c_l_records), (Value.int .i64 l.many), (Value.int .i64 l.synced)].toArray 52)]) O) (l := l.records) hi.ltw f_l_records hv55) (by simp only [List.map, Array.toList, (show ev _ (.tmp 19) = _ from (ht 19 rfl))] <;> rfl) ?_)
   rintro v56 w57 ⟨hx58, h59⟩
   exact Goes.call hi hx58 h59
  refine Dw_nil fun w65 g66 hl67 hi68 => ?_
  obtain ⟨-, hst69, -⟩ := hl67
  obtain ⟨hs71, p70⟩ := Step.nx hi68
  rintro v72 h73
  replace h73 : Vr.vd (vI .i64) _ _ _ _ := h73
  obtain ⟨rfl, r_y74⟩ := h73
  rintro _ rfl
  rintro _ rfl
  rintro _ rfl
  rintro _ rfl
  rintro v75 h76
  replace h76 : Vr.vd (vI .i64) _ _ _ _ := h76
  obtain ⟨rfl, r_y77⟩ := h76
  rintro _ rfl
  rintro _ rfl
  have p78 : Step (ks [(some b6, Obj.cells [(Value.slice none 0 0), (Value.int .i64 0), (Value.int .i64 0)].toArray 52), (some b1, Obj.cells [(Value.slice a_l_records l.records.length c_l_records), (Value.int .i64 l.many), (Value.int .i64 l.synced)].toArray 52)] O) w13 (ks [(some b6, Obj.cells [(Value.slice none 0 0), (Value.int .i64 0), (Value.int .i64 0)].toArray 52), (some b1, Obj.cells [(Value.slice a_l_records l.records.length c_l_records), (Value.int .i64 l.many), (Value.int .i64 l.synced)].toArray 52)] O) w65 := hst69.trans p70
  replace f_l_records := f_l_records.step p78; replace f_b := f_b.step p78; clear p78 hs16
  refine Rg_op rfl (op_subw rfl rfl ?_)
  refine Rg_op rfl (op_gtr rfl rfl ?_)
  refine Rg_nil ?_
  refine Wp_cond rfl (fun hc79 => ?_) (fun hc79 => ?_)
  ·
   replace hm := bif_t hm hc79
   refine Wp_seq ?_
   obtain ⟨hs80, p81⟩ := hs71.sub (bs' := [(some b6, Obj.cells [(Value.slice none 0 0), (Value.int .i64 0), (Value.int .i64 0)].toArray 52)]) (.cons_cons _ (.cons _ List.Sublist.slnil))
   clear f_l_records f_b
   clear p81 hs71
   refine Wp_region ?_
   refine Rg_op rfl (op_build (vs := [(Value.slice none 0 0), (Value.int .i64 0), (Value.int .i64 0)]) (parts := []) ty52 pl52 rfl ?_)
   refine Rg_op_ (op_store (cs := [(Value.slice none 0 0), (Value.int .i64 0), (Value.int .i64 0)]) (vs := [(Value.slice none 0 0), (Value.int .i64 0), (Value.int .i64 0)]) (cs' := [(Value.slice none 0 0), (Value.int .i64 0), (Value.int .i64 0)]) (bs' := [(some b6, Obj.cells [(Value.slice none 0 0), (Value.int .i64 0), (Value.int .i64 0)].toArray 52)]) (i := 0) ty52 hs80 rfl rfl rfl rfl rfl (le_lit rfl) rfl rfl rfl ?_)
   intro w82 p83 hs84
   clear p83 hs80
   refine Rg_op rfl (op_assign (v := (Value.int .i64 2)) rfl ?_)
   refine Rg_nil ?_
   refine Wp_ret ?_
   have hz := step_all hs84
   refine ⟨_, (show Closes [] _ _ from rfl), [(Value.agg [(Value.slice none 0 0), (Value.int .i64 0), (Value.int .i64 0)].toArray), (Value.int .i64 2)], ⟨resA (cs := [(Value.slice none 0 0), (Value.int .i64 0), (Value.int .i64 0)]) (vs := [(Value.slice none 0 0), (Value.int .i64 0), (Value.int .i64 0)]) ty52 (i := 0) hs84 rfl rfl rfl rfl, rfl, trivial⟩, hs84.ext, ?_⟩
   exact Vr.eq (a := (vT2 (vA rXJournal) (vI .i64))) (x := ((⟨([] : List (List UInt8)), 0, 0⟩ : XJournal), 2)) (mkT2 (mkA (mkVia (mk_pair (mk_sl SlR.nil_) (mk_pair (mk_int (show InK .i64 0 from by decide)) (mk_int (show InK .i64 0 from by decide)))))) ⟨rfl, (show InK .i64 2 from by decide)⟩) (Option.some.inj hm)
  ·
   replace hm := bif_f hm hc79
   refine Wp_skip ?_
   refine Wp_seq ?_
   refine Wp_region ?_
   refine Rg_op rfl (op_buildSlice (cs := []) (parts := []) ty22 ty41 hs71 (by decide) rfl ?_)
   intro b85 w86 hx89 p87 hs88
   replace f_l_records := f_l_records.step p87; replace f_b := f_b.step p87; clear p87 hs71
   refine Rg_op rfl (op_fieldAddr ty52 rfl ty22 (by decide) rfl (rfl : _ = (⟨_, 0, none⟩ : Addr)) ?_)
   refine Rg_op rfl (op_load (cs := [(Value.slice a_l_records l.records.length c_l_records), (Value.int .i64 l.many), (Value.int .i64 l.synced)]) (i := 2) ty22 hs88 rfl rfl rfl ?_)
   have f91 := Gs.of_cells (p := (rSl rU8)) (e := 41) (bl := b85) (c := 0) (w := w86) (O := ks [(some b85, Obj.cells [].toArray 41), (some b6, Obj.cells [(Value.slice none 0 0), (Value.int .i64 0), (Value.int .i64 0)].toArray 52), (some b1, Obj.cells [(Value.slice a_l_records l.records.length c_l_records), (Value.int .i64 l.many), (Value.int .i64 l.synced)].toArray 52)] O) (show Els (rSl rU8) _ _ [] [] from Els.nil) rfl (le_lit rfl)
   replace hm := ck_some hm; obtain ⟨hc92, hm⟩ := hm
   obtain ⟨ns93, he94, hr95⟩ := f_l_records.src
   refine Rg_op rfl (op_append (q := (rSl rU8)) (i := 0) (xs := ([] : List (List UInt8))) (ys := l.records) (news := ns93) ty22 ty41 rfl (by decide) hs88 rfl rfl f91 rfl hr95 he94 hc92 (by have := hc92; simp only [maxLen]; omega) ?_)
   intro a99 c100 k101 o102 w96 p97 hs98 f103
   replace f_l_records := f_l_records.step p97; replace f_b := f_b.step p97; clear p97 hs88
   refine Rg_op rfl (op_move (v := (Value.slice a_b b.length c_b)) rfl ?_)
   refine Rg_op rfl (op_buildSlice (cs := [(Value.slice a_b b.length c_b)]) (parts := [(0, .tmp 28)]) ty22 ty41 hs98 (by decide) rfl ?_)
   intro b104 w105 hx108 p106 hs107
   replace f_l_records := f_l_records.step p106; replace f_b := f_b.step p106; replace f103 := f103.step p106; clear p106 hs98
   replace hm := ck_some hm; obtain ⟨hc110, hm⟩ := hm
   refine Rg_op rfl (op_append (q := (rSl rU8)) (i := 1) (xs := (([] : List (List UInt8)) ++ l.records)) (ys := [b]) (news := [(Value.slice a_b b.length c_b)]) ty22 ty41 rfl (by decide) hs107 rfl rfl f103 rfl (Src.owned' (len := 1) (hs107.get (i := 0) rfl) rfl) (show Els (rSl rU8) _ _ [(Value.slice a_b b.length c_b)] [b] from ⟨_, _, rfl, (mk_sl f_b), Els.nil⟩) hc110 (by have := hc110; simp only [maxLen]; omega) ?_)
   intro a114 c115 k116 o117 w111 p112 hs113 f118
   replace f_l_records := f_l_records.step p112; replace f_b := f_b.step p112; clear p112 hs107
   have hs119 := hs113.drop 0
   replace f_l_records := f_l_records.step (hs113.dropS 0)
   replace f_b := f_b.step (hs113.dropS 0)
   replace f118 := f118.step (hs113.dropS 0); clear hs113
   refine Rg_op rfl (op_fieldAddr ty52 rfl ty22 (by decide) rfl (rfl : _ = (⟨_, 0, none⟩ : Addr)) ?_)
   refine Rg_op_ (op_store (cs := [(Value.slice a_l_records l.records.length c_l_records), (Value.int .i64 l.many), (Value.int .i64 l.synced)]) (vs := [(Value.slice a114 ((([] : List (List UInt8)) ++ l.records) ++ [b]).length c115)]) (cs' := [(Value.slice a114 ((([] : List (List UInt8)) ++ l.records) ++ [b]).length c115), (Value.int .i64 l.many), (Value.int .i64 l.synced)]) (bs' := [(k116, o117), (some b6, Obj.cells [(Value.slice none 0 0), (Value.int .i64 0), (Value.int .i64 0)].toArray 52), (some b1, Obj.cells [(Value.slice a114 ((([] : List (List UInt8)) ++ l.records) ++ [b]).length c115), (Value.int .i64 l.many), (Value.int .i64 l.synced)].toArray 52)]) (i := 2) ty22 hs119 rfl rfl rfl rfl rfl (le_lit rfl) rfl rfl rfl ?_)
   intro w120 p121 hs122
   replace f_l_records := f_l_records.step p121; replace f_b := f_b.step p121; replace f118 := f118.step p121; clear p121 hs119
   refine Rg_nil ?_
   refine Wp_seq ?_
   clear f_l_records f_b
   refine Wp_reset [] [(2, (Value.pointer (some ⟨b1, 0, none⟩))), (4, (Value.pointer (some ⟨b6, 0, none⟩)))] rfl ⟨rfl, rfl, trivial⟩ fun ξ123 => ?_
   refine Wp_region ?_
   refine Rg_op rfl (op_loadA (cs := [(Value.slice a114 ((([] : List (List UInt8)) ++ l.records) ++ [b]).length c115), (Value.int .i64 l.many), (Value.int .i64 l.synced)]) (vs := [(Value.slice a114 ((([] : List (List UInt8)) ++ l.records) ++ [b]).length c115), (Value.int .i64 l.many), (Value.int .i64 l.synced)]) (i := 2) ty52 hs122 rfl rfl rfl rfl ?_)
   refine Rg_op_ (op_store (cs := [(Value.slice none 0 0), (Value.int .i64 0), (Value.int .i64 0)]) (vs := [(Value.slice a114 ((([] : List (List UInt8)) ++ l.records) ++ [b]).length c115), (Value.int .i64 l.many), (Value.int .i64 l.synced)]) (cs' := [(Value.slice a114 ((([] : List (List UInt8)) ++ l.records) ++ [b]).length c115), (Value.int .i64 l.many), (Value.int .i64 l.synced)]) (bs' := [(k116, o117), (some b6, Obj.cells [(Value.slice a114 ((([] : List (List UInt8)) ++ l.records) ++ [b]).length c115), (Value.int .i64 l.many), (Value.int .i64 l.synced)].toArray 52), (some b1, Obj.cells [(Value.slice a114 ((([] : List (List UInt8)) ++ l.records) ++ [b]).length c115), (Value.int .i64 l.many), (Value.int .i64 l.synced)].toArray 52)]) (i := 1) ty52 hs122 rfl rfl rfl rfl rfl (le_lit rfl) rfl rfl rfl ?_)
   intro w124 p125 hs126
   replace f118 := f118.step p125; clear p125 hs122
   refine Rg_op rfl (op_assign (v := (Value.int .i64 0)) rfl ?_)
   refine Rg_nil ?_
   refine Wp_ret ?_
   obtain ⟨hs128, p129, f127⟩ := Gs.publish (i := 0) hs126 rfl f118
   clear p129 hs126
   have hz := step_all hs128
   replace f127 := f127.step hz
   refine ⟨_, (show Closes [] _ _ from rfl), [(Value.agg [(Value.slice a114 ((([] : List (List UInt8)) ++ l.records) ++ [b]).length c115), (Value.int .i64 l.many), (Value.int .i64 l.synced)].toArray), (Value.int .i64 0)], ⟨resA (cs := [(Value.slice a114 ((([] : List (List UInt8)) ++ l.records) ++ [b]).length c115), (Value.int .i64 l.many), (Value.int .i64 l.synced)]) (vs := [(Value.slice a114 ((([] : List (List UInt8)) ++ l.records) ++ [b]).length c115), (Value.int .i64 l.many), (Value.int .i64 l.synced)]) ty52 (i := 0) hs128 rfl rfl rfl rfl, rfl, trivial⟩, hs128.ext, ?_⟩
   exact Vr.eq (a := (vT2 (vA rXJournal) (vI .i64))) (x := ((⟨((([] : List (List UInt8)) ++ l.records) ++ [b]), l.many, l.synced⟩ : XJournal), 0)) (mkT2 (mkA (mkVia (mk_pair (mk_sl f127) (mk_pair (mk_int r_l_many) (mk_int r_l_synced))))) ⟨rfl, (show InK .i64 0 from by decide)⟩) (Option.some.inj hm)

end Go.Fx



set_option linter.unusedVariables false
set_option linter.unusedSimpArgs false
set_option maxRecDepth 100000
set_option maxHeartbeats 0
namespace Go.Fx
open Go Go.RowKit Go.Proofs
def m35_overflightref45_Room (l : XJournal) : Option Int :=
 (m33_overflightref45_Check l).bind fun check_1 =>
 bif (decide (check_1 ≠ 0)) then
  some 0
 else
  (m58_overflightref45_Used l.records).bind fun used_1 =>
  some (IntKind.wrap .i64 (112 * (IntKind.wrap .i64 (l.many - used_1))))

theorem c35_overflightref45_Room {w : World} {O : List Nat} {l : XJournal} {a_l_records : Option Addr} {c_l_records : Nat} (hO : ∀ k ∈ O, k < w.heap.size) (f_l_records : SlR (rSl rU8) w O a_l_records c_l_records l.records) (r_l_many : InK .i64 l.many) (r_l_synced : InK .i64 l.synced) {x : Int} (hm : m35_overflightref45_Room l = some x) :
  Ok Try.prog 35 [(Value.agg [(Value.slice a_l_records l.records.length c_l_records), (Value.int .i64 l.many), (Value.int .i64 l.synced)].toArray)] w O (vI .i64) x := by
 unfold m35_overflightref45_Room at hm
 refine Fn_of_Wp (n := 13) (xs := [.tmp 2]) Try.func35 rfl Try.ntmps35 Try.results35 rfl ?_
 have hs := St.start hO
 refine Wp_seq ?_
 refine Wp_region ?_
 refine Rg_op rfl (op_box (cs := [(Value.slice a_l_records l.records.length c_l_records), (Value.int .i64 l.many), (Value.int .i64 l.synced)]) hs rfl rfl ?_)
 intro b1 w2 _ p3 hs4
 replace f_l_records := f_l_records.step p3; clear p3
 refine Rg_op rfl (op_assign (v := (Value.int .i64 0)) rfl ?_)
 refine Rg_nil ?_
 refine Wp_seq ?_
 refine Wp_seq ?_
 refine Wp_region ?_
 refine Rg_op rfl (op_loadA (cs := [(Value.slice a_l_records l.records.length c_l_records), (Value.int .i64 l.many), (Value.int .i64 l.synced)]) (vs := [(Value.slice a_l_records l.records.length c_l_records), (Value.int .i64 l.many), (Value.int .i64 l.synced)]) (i := 0) ty52 hs4 rfl rfl rfl rfl ?_)
 replace hm := bd hm; obtain ⟨check_1, hv6, hm⟩ := hm
 refine Rg_op rfl (op_call Try.call33 (c33_overflightref45_Check (l := l) hs4.ltw f_l_records r_l_many r_l_synced hv6) rfl ?_)
 rintro v7 w8 ⟨hx9, h10⟩
 have hs11 := hs4.call hx9
 have p12 := Step.ext (O := ks [(some b1, Obj.cells [(Value.slice a_l_records l.records.length c_l_records), (Value.int .i64 l.many), (Value.int .i64 l.synced)].toArray 52)] O) hx9
 clear hx9
 replace f_l_records := f_l_records.step p12; clear p12 hs4
 obtain ⟨rfl, r_y13⟩ := h10
 refine Rg_op rfl (op_neq rfl rfl ?_)
 refine Rg_nil ?_
 refine Wp_cond rfl (fun hc14 => ?_) (fun hc14 => ?_)
 ·
  replace hm := bif_t hm hc14
  refine Wp_seq ?_
  obtain ⟨hs15, p16⟩ := hs11.sub (bs' := []) (.cons _ List.Sublist.slnil)
  clear f_l_records
  clear p16 hs11
  refine Wp_region ?_
  refine Rg_op rfl (op_assign (v := (Value.int .i64 0)) rfl ?_)
  refine Rg_nil ?_
  refine Wp_ret ?_
  have hz := step_all hs15
  refine ⟨_, (show Closes [] _ _ from rfl), [(Value.int .i64 0)], ⟨rfl, trivial⟩, hs15.ext, ?_⟩
  exact Vr.eq (a := (vI .i64)) (x := 0) ⟨rfl, (show InK .i64 0 from by decide)⟩ (Option.some.inj hm)
 ·
  replace hm := bif_f hm hc14
  refine Wp_skip ?_
  refine Wp_seq ?_
  refine Wp_drawR (g0 := []) (m := 5) (fl := []) (TS_inv hs11) (.inl rfl) rfl (by decide +kernel) ?_  -- 3
  refine Dw_eq (Value.pointer (some ⟨b1, 1, none⟩)) (fun ρ17 w18 g hle hi ht => ?_) ?_
  ·
   obtain ⟨-, hst, -⟩ := hle
   refine StepOp_plain (op_fieldAddr ty52 rfl ty3 (by decide) (ht 1 rfl) (rfl : _ = (⟨_, 1, none⟩ : Addr)) ?_)
   exact Goes.same hi rfl
  refine Dw_eq (Value.int .i64 l.many) (fun ρ20 w21 g hle hi ht => ?_) ?_
  ·
   obtain ⟨-, hst, -⟩ := hle
   have hsn := (Step.nx hi).1
   refine StepOp_plain (op_load (cs := [(Value.slice a_l_records l.records.length c_l_records), (Value.int .i64 l.many), (Value.int .i64 l.synced)]) (i := 0) ty3 hsn (ht 6 rfl) rfl rfl ?_)
   exact Goes.same hi rfl
  refine Dw_eq (Value.pointer (some ⟨b1, 0, none⟩)) (fun ρ23 w24 g hle hi ht => ?_) ?_
  ·
   obtain ⟨-, hst, -⟩ := hle
   refine StepOp_plain (op_fieldAddr ty52 rfl ty22 (by decide) (ht 1 rfl) (rfl : _ = (⟨_, 0, none⟩ : Addr)) ?_)
   exact Goes.same hi rfl
  refine Dw_eq (Value.slice a_l_records l.records.length c_l_records) (fun ρ26 w27 g hle hi ht => ?_) ?_
  ·
   obtain ⟨-, hst, -⟩ := hle
   have hsn := (Step.nx hi).1
   refine StepOp_plain (op_load (cs := [(Value.slice a_l_records l.records.length c_l_records), (Value.int .i64 l.many), (Value.int .i64 l.synced)]) (i := 0) ty22 hsn (ht 8 rfl) rfl rfl ?_)
   exact Goes.same hi rfl
  replace hm := bd hm; obtain ⟨used_1, hv32, hm⟩ := hm
  refine Dw_op (VD O [(some b1, Obj.cells [(Value.slice a_l_records l.records.length c_l_records), (Value.int .i64 l.many), (Value.int .i64 l.synced)].toArray 52)] (vI .i64) used_1) (VD.stab _ _) (fun ρ29 w30 g hle hi ht => ?_) ?_
  ·
   obtain ⟨-, hst, -⟩ := hle
   replace f_l_records := f_l_records.step hst
   refine StepOp_plain (op_call Try.call58 (c58_overflightref45_Used (O := ks (ents g ++ [(some b1, Obj.cells [(Value.slice a_l_records l.records.length c_l_records), (Value.int .i64 l.many), (Value.int .i64 l.synced)].toArray 52)]) O) (l := l.records) hi.ltw f_l_records hv32) (by simp only [List.map, Array.toList, (show ev _ (.tmp 9) = _ from (ht 9 rfl))] <;> rfl) ?_)
   rintro v33 w34 ⟨hx35, h36⟩
   exact Goes.call hi hx35 h36
  refine Dw_nil fun w42 g43 hl44 hi45 => ?_
  obtain ⟨-, hst46, -⟩ := hl44
  obtain ⟨hs48, p47⟩ := Step.nx hi45
  rintro v49 h50
  replace h50 : Vr.vd (vI .i64) _ _ _ _ := h50
  obtain ⟨rfl, r_y51⟩ := h50
  rintro _ rfl
  rintro _ rfl
  rintro _ rfl
  rintro _ rfl
  have p52 : Step (ks [(some b1, Obj.cells [(Value.slice a_l_records l.records.length c_l_records), (Value.int .i64 l.many), (Value.int .i64 l.synced)].toArray 52)] O) w8 (ks [(some b1, Obj.cells [(Value.slice a_l_records l.records.length c_l_records), (Value.int .i64 l.many), (Value.int .i64 l.synced)].toArray 52)] O) w42 := hst46.trans p47
  replace f_l_records := f_l_records.step p52; clear p52 hs11
  refine Rg_op rfl (op_subw rfl rfl ?_)
  refine Rg_op rfl (op_mulw rfl rfl ?_)
  refine Rg_op rfl (op_assign (v := (Value.int .i64 (IntKind.wrap .i64 (112 * (IntKind.wrap .i64 (l.many - used_1)))))) rfl ?_)
  refine Rg_nil ?_
  refine Wp_ret ?_
  have hz := step_all hs48
  replace f_l_records := f_l_records.step hz
  refine ⟨_, (show Closes [] _ _ from rfl), [(Value.int .i64 (IntKind.wrap .i64 (112 * (IntKind.wrap .i64 (l.many - used_1)))))], ⟨rfl, trivial⟩, hs48.ext, ?_⟩
  exact Vr.eq (a := (vI .i64)) (x := (IntKind.wrap .i64 (112 * (IntKind.wrap .i64 (l.many - used_1))))) ⟨rfl, (inK_wrap .i64 _)⟩ (Option.some.inj hm)

end Go.Fx



set_option linter.unusedVariables false
set_option linter.unusedSimpArgs false
set_option maxRecDepth 100000
set_option maxHeartbeats 0
namespace Go.Fx
open Go Go.RowKit Go.Proofs
def m37_overflightref45_SameRecords_B0 (a : List (List UInt8)) (b : List (List UInt8)) (sf6 : Int → Option Bool) (i_1 : Int) : Option Bool :=
 bif (decide (i_1 < (a.length : Int))) then
  ck ((0 : Int) ≤ i_1 ∧ i_1 < (a.length : Int)) <|
  ck ((0 : Int) ≤ i_1 ∧ i_1 < (b.length : Int)) <|
  bif (decide ((a.getD i_1.toNat default) ≠ (b.getD i_1.toNat default))) then
   some false
  else
   sf6 (IntKind.wrap .i64 (i_1 + 1))
 else
  some true

def m37_overflightref45_SameRecords (a : List (List UInt8)) (b : List (List UInt8)) : Option Bool :=
 bif (decide ((a.length : Int) ≠ (b.length : Int))) then
  some false
 else
  loop1 (m37_overflightref45_SameRecords_B0 a b) (((a.length : Int) - 0).toNat + 1) 0

theorem c37_overflightref45_SameRecords {w : World} {O : List Nat} {a : List (List UInt8)} {b : List (List UInt8)} {a_a : Option Addr} {c_a : Nat} {a_b : Option Addr} {c_b : Nat} (hO : ∀ k ∈ O, k < w.heap.size) (f_a : SlR (rSl rU8) w O a_a c_a a) (f_b : SlR (rSl rU8) w O a_b c_b b) {x : Bool} (hm : m37_overflightref45_SameRecords a b = some x) :
  Ok Try.prog 37 [(Value.slice a_a a.length c_a), (Value.slice a_b b.length c_b)] w O vB x := by
 unfold m37_overflightref45_SameRecords at hm
 refine Fn_of_Wp (n := 28) (xs := [.tmp 4]) Try.func37 rfl Try.ntmps37 Try.results37 rfl ?_
 have hs := St.start hO
 refine Wp_seq ?_
 refine Wp_region ?_
 refine Rg_op rfl (op_assign (v := (Value.bool false)) rfl ?_)
 refine Rg_nil ?_
 refine Wp_seq ?_
 refine Wp_seq ?_
 refine Wp_region ?_
 refine Rg_op rfl (op_move (v := (Value.slice a_a a.length c_a)) rfl ?_)
 refine Rg_op rfl (op_len Try.underlying22 rfl ?_)
 have rl1 := inK_len f_a
 refine Rg_op rfl (op_move (v := (Value.slice a_b b.length c_b)) rfl ?_)
 refine Rg_op rfl (op_len Try.underlying22 rfl ?_)
 have rl2 := inK_len f_b
 refine Rg_op rfl (op_neq rfl rfl ?_)
 refine Rg_nil ?_
 refine Wp_cond rfl (fun hc3 => ?_) (fun hc3 => ?_)
 ·
  replace hm := bif_t hm hc3
  refine Wp_seq ?_
  clear f_a f_b
  refine Wp_region ?_
  refine Rg_op rfl (op_assign (v := (Value.bool false)) rfl ?_)
  refine Rg_nil ?_
  refine Wp_ret ?_
  have hz := step_all hs
  refine ⟨_, (show Closes [] _ _ from rfl), [(Value.bool false)], ⟨rfl, trivial⟩, hs.ext, ?_⟩
  exact Vr.eq (a := vB) (x := false) rfl (Option.some.inj hm)
 ·
  replace hm := bif_f hm hc3
  refine Wp_skip ?_
  refine Wp_seq ?_
  refine Wp_seq ?_
  refine Wp_region ?_
  refine Rg_op rfl (op_assign (v := (Value.int .i64 0)) rfl ?_)
  refine Rg_nil ?_
  refine Wp_block ?_
  refine Wp_reset [] [(0, (Value.slice a_a a.length c_a)), (1, (Value.slice a_b b.length c_b)), (5, (Value.int .i64 0))] rfl ⟨rfl, rfl, rfl, trivial⟩ fun ξ5 => ?_
  refine Wp_loopM [4, 5, 11, 12, 13, 14, 15, 16, 17, 18, 19, 20, 21, 22, 23, 24, 25, 26, 27] (fun m fr w' => ∃ (i_1 : Int) (Ebs : Ents), Ebs = [] ∧ fr [] [(5, (Value.int .i64 i_1))] ∧ Step (ks [] O) w (ks Ebs O) w' ∧ St ⟨w, [], []⟩ O w' Ebs ∧ InK .i64 i_1 ∧ loop1 (m37_overflightref45_SameRecords_B0 a b) m i_1 = some x) (((a.length : Int) - 0).toNat + 1) ⟨0, _, rfl, ⟨Out.refl _ _, rfl, rfl, trivial⟩, Step.refl _ _, hs, (show InK .i64 0 from by decide), hm⟩ ?_ ?_
  · rintro _ _ ⟨_, _, _, _, _, _, _, hm⟩; exact loop1_z hm
  ·
   rintro m9 K8 hK8 ρ14 w10 ⟨i_1, Ebs, hEbs, hfr13, hst12, hs11, r_y4, hm⟩
   obtain ⟨sf6, hsf7, hm⟩ := loop1_s hm; unfold m37_overflightref45_SameRecords_B0 at hm
   subst hEbs; rw [hfr13.eq]; clear hfr13
   replace f_a := f_a.step hst12; replace f_b := f_b.step hst12
   have ch15 := hst12
   refine Wp_seq ?_
   refine Wp_seq ?_
   refine Wp_region ?_
   refine Rg_op rfl (op_move (v := (Value.int .i64 i_1)) rfl ?_)
   refine Rg_op rfl (op_move (v := (Value.slice a_a a.length c_a)) rfl ?_)
   refine Rg_op rfl (op_len Try.underlying22 rfl ?_)
   have rl16 := inK_len f_a
   refine Rg_op rfl (op_lss rfl rfl ?_)
   refine Rg_nil ?_
   refine Wp_cond rfl (fun hc17 => ?_) (fun hc17 => ?_)
   ·
    replace hm := bif_t hm hc17
    refine Wp_skip ?_
    refine Wp_seq ?_
    refine Wp_block ?_
    refine Wp_seq ?_
    refine Wp_drawR (g0 := []) (m := 10) (fl := []) (TS_inv hs11) (.inl rfl) rfl (by decide +kernel) ?_  -- 6
    refine Dw_eq (Value.slice a_a a.length c_a) (fun ρ18 w19 g hle hi ht => ?_) ?_
    ·
     obtain ⟨-, hst, -⟩ := hle
     refine StepOp_plain (op_move (v := (Value.slice a_a a.length c_a)) (ht 0 rfl) ?_)
     exact Goes.same hi rfl
    refine Dw_eq (Value.int .i64 i_1) (fun ρ21 w22 g hle hi ht => ?_) ?_
    ·
     obtain ⟨-, hst, -⟩ := hle
     refine StepOp_plain (op_move (v := (Value.int .i64 i_1)) (ht 5 rfl) ?_)
     exact Goes.same hi rfl
    replace hm := ck_some hm; obtain ⟨hc27, hm⟩ := hm
    refine Dw_op (VP O [] (rSl rU8) (a.getD i_1.toNat default)) (VP.stab _ _) (fun ρ24 w25 g hle hi ht => ?_) ?_
    ·
     obtain ⟨-, hst, -⟩ := hle
     replace f_a := f_a.step hst
     refine StepOp_plain (op_indexAddr (q := (rSl rU8)) ty22 ty41 (ht 17 rfl) (ht 18 rfl) f_a rfl hc27.1 hc27.2 ?_)
     intro p28 f29
     exact Goes.same hi ⟨_, rfl, f29⟩
    refine Dw_op (VD O [] (vC (rSl rU8)) (a.getD i_1.toNat default)) (VD.stab _ _) (fun ρ30 w31 g hle hi ht => ?_) ?_
    ·
     obtain ⟨-, hst, -⟩ := hle
     obtain ⟨p33, q34, f35⟩ := ht 19 rfl
     refine StepOp_plain (op_loadP ty41 q34 f35 rfl ?_)
     intro v36 h37
     obtain ⟨a_y38, c_y38, rfl, f_y38⟩ := un_sl h37
     exact Goes.same hi (show Vr.vd (vC (rSl rU8)) _ _ _ _ from (mkC (mk_sl f_y38)))
    refine Dw_eq (Value.string (bs (a.getD i_1.toNat default))) (fun ρ39 w40 g hle hi ht => ?_) ?_
    ·
     obtain ⟨-, hst, -⟩ := hle
     have h42 : Vr.vd (vC (rSl rU8)) _ _ _ _ := ht 20 rfl
     obtain ⟨a_y44, c_y44, q43, f_y44⟩ := un_sl h42
     refine StepOp_plain (op_bytesToString ty41 Try.underlying5 Try.underlying9 q43 f_y44 ?_)
     exact Goes.same hi rfl
    refine Dw_eq (Value.slice a_b b.length c_b) (fun ρ45 w46 g hle hi ht => ?_) ?_
    ·
     obtain ⟨-, hst, -⟩ := hle
     refine StepOp_plain (op_move (v := (Value.slice a_b b.length c_b)) (ht 1 rfl) ?_)
     exact Goes.same hi rfl
    refine Dw_eq (Value.int .i64 i_1) (fun ρ48 w49 g hle hi ht => ?_) ?_
    ·
     obtain ⟨-, hst, -⟩ := hle
     refine StepOp_plain (op_move (v := (Value.int .i64 i_1)) (ht 5 rfl) ?_)
     exact Goes.same hi rfl
    replace hm := ck_some hm; obtain ⟨hc54, hm⟩ := hm
    refine Dw_op (VP O [] (rSl rU8) (b.getD i_1.toNat default)) (VP.stab _ _) (fun ρ51 w52 g hle hi ht => ?_) ?_
    ·
     obtain ⟨-, hst, -⟩ := hle
     replace f_b := f_b.step hst
     refine StepOp_plain (op_indexAddr (q := (rSl rU8)) ty22 ty41 (ht 22 rfl) (ht 23 rfl) f_b rfl hc54.1 hc54.2 ?_)
     intro p55 f56
     exact Goes.same hi ⟨_, rfl, f56⟩
    refine Dw_op (VD O [] (vC (rSl rU8)) (b.getD i_1.toNat default)) (VD.stab _ _) (fun ρ57 w58 g hle hi ht => ?_) ?_
    ·
     obtain ⟨-, hst, -⟩ := hle
     obtain ⟨p60, q61, f62⟩ := ht 24 rfl
     refine StepOp_plain (op_loadP ty41 q61 f62 rfl ?_)
     intro v63 h64
     obtain ⟨a_y65, c_y65, rfl, f_y65⟩ := un_sl h64
     exact Goes.same hi (show Vr.vd (vC (rSl rU8)) _ _ _ _ from (mkC (mk_sl f_y65)))
    refine Dw_eq (Value.string (bs (b.getD i_1.toNat default))) (fun ρ66 w67 g hle hi ht => ?_) ?_
    ·
     obtain ⟨-, hst, -⟩ := hle
     have h69 : Vr.vd (vC (rSl rU8)) _ _ _ _ := ht 25 rfl
     obtain ⟨a_y71, c_y71, q70, f_y71⟩ := un_sl h69
     refine StepOp_plain (op_bytesToString ty41 Try.underlying5 Try.underlying9 q70 f_y71 ?_)
     exact Goes.same hi rfl
    refine Dw_nil fun w76 g77 hl78 hi79 => ?_
    obtain ⟨-, hst80, -⟩ := hl78
    obtain ⟨hs82, p81⟩ := Step.nx hi79
    rintro _ rfl
    rintro v83 h84
    replace h84 : Vr.vd (vC (rSl rU8)) _ _ _ _ := h84
    obtain ⟨a_y85, c_y85, rfl, f_y85⟩ := un_sl h84
    rintro _ ⟨p86, rfl, f87⟩
    rintro _ rfl
    rintro _ rfl
    rintro _ rfl
    rintro v88 h89
    replace h89 : Vr.vd (vC (rSl rU8)) _ _ _ _ := h89
    obtain ⟨a_y90, c_y90, rfl, f_y90⟩ := un_sl h89
    rintro _ ⟨p91, rfl, f92⟩
    rintro _ rfl
    rintro _ rfl
    have p93 : Step (ks [] O) w10 (ks [] O) w76 := hst80.trans p81
    replace f_y85 := f_y85.step p81; replace f87 := f87.step p81; replace f_y90 := f_y90.step p81; replace f92 := f92.step p81; replace f_a := f_a.step p93; replace f_b := f_b.step p93; replace ch15 := ch15.trans p93; clear p93 hs11
    refine Rg_op rfl (op_neqs (a := (a.getD i_1.toNat default)) (b := (b.getD i_1.toNat default)) rfl rfl ?_)
    refine Rg_nil ?_
    refine Wp_cond rfl (fun hc94 => ?_) (fun hc94 => ?_)
    ·
     replace hm := bif_t hm hc94
     refine Wp_seq ?_
     clear f_a f_b f_y85 f87 f_y90 f92
     refine Wp_region ?_
     refine Rg_op rfl (op_assign (v := (Value.bool false)) rfl ?_)
     refine Rg_nil ?_
     refine Wp_ret ?_
     have hz := step_all hs82
     refine ⟨_, (show Closes [] _ _ from rfl), [(Value.bool false)], ⟨rfl, trivial⟩, hs82.ext, ?_⟩
     exact Vr.eq (a := vB) (x := false) rfl (Option.some.inj hm)
    ·
     replace hm := bif_f hm hc94
     refine Wp_skip ?_
     clear f_y85 f87 f_y90 f92
     refine Wp_region ?_
     refine Rg_op rfl (op_move (v := (Value.int .i64 i_1)) rfl ?_)
     refine Rg_op rfl (op_addw rfl rfl ?_)
     refine Rg_op rfl (op_assign (v := (Value.int .i64 (IntKind.wrap .i64 (i_1 + 1)))) rfl ?_)
     refine Rg_nil ?_
     exact hK8 _ _ ⟨(IntKind.wrap .i64 (i_1 + 1)), _, rfl, ⟨(by repeat (first | with_reducible exact Out.refl _ _ | refine Out.upd ?_ rfl | refine Out.updL ?_ rfl | refine Out.mix' ?_ rfl | exact Out.refl _ _)), rfl, rfl, trivial⟩, ch15, hs82, (inK_wrap .i64 _), jnE1 hsf7 hm⟩
   ·
    replace hm := bif_f hm hc17
    refine Wp_exit ?_
    refine Wp_seq ?_
    clear f_a f_b
    refine Wp_region ?_
    refine Rg_op rfl (op_assign (v := (Value.bool true)) rfl ?_)
    refine Rg_nil ?_
    refine Wp_ret ?_
    have hz := step_all hs11
    refine ⟨_, (show Closes [] _ _ from rfl), [(Value.bool true)], ⟨rfl, trivial⟩, hs11.ext, ?_⟩
    exact Vr.eq (a := vB) (x := true) rfl (Option.some.inj hm)

end Go.Fx



set_option linter.unusedVariables false
set_option linter.unusedSimpArgs false
set_option maxRecDepth 100000
set_option maxHeartbeats 0
namespace Go.Fx
open Go Go.RowKit Go.Proofs
def m36_overflightref45_Same (a : XJournal) (b : XJournal) : Option Bool :=
 bif (decide (a.many = b.many)) then
  bif (decide (a.synced = b.synced)) then
   (m37_overflightref45_SameRecords a.records b.records).bind fun samerecords_1 =>
   some samerecords_1
  else
   some false
 else
  some false

theorem c36_overflightref45_Same {w : World} {O : List Nat} {a : XJournal} {b : XJournal} {a_a_records : Option Addr} {c_a_records : Nat} {a_b_records : Option Addr} {c_b_records : Nat} (hO : ∀ k ∈ O, k < w.heap.size) (f_a_records : SlR (rSl rU8) w O a_a_records c_a_records a.records) (r_a_many : InK .i64 a.many) (r_a_synced : InK .i64 a.synced) (f_b_records : SlR (rSl rU8) w O a_b_records c_b_records b.records) (r_b_many : InK .i64 b.many) (r_b_synced : InK .i64 b.synced) {x : Bool} (hm : m36_overflightref45_Same a b = some x) :
  Ok Try.prog 36 [(Value.agg [(Value.slice a_a_records a.records.length c_a_records), (Value.int .i64 a.many), (Value.int .i64 a.synced)].toArray), (Value.agg [(Value.slice a_b_records b.records.length c_b_records), (Value.int .i64 b.many), (Value.int .i64 b.synced)].toArray)] w O vB x := by
 unfold m36_overflightref45_Same at hm
 refine Fn_of_Wp (n := 24) (xs := [.tmp 4]) Try.func36 rfl Try.ntmps36 Try.results36 rfl ?_
 have hs := St.start hO
 refine Wp_seq ?_
 refine Wp_region ?_
 refine Rg_op rfl (op_box (cs := [(Value.slice a_a_records a.records.length c_a_records), (Value.int .i64 a.many), (Value.int .i64 a.synced)]) hs rfl rfl ?_)
 intro b1 w2 _ p3 hs4
 replace f_a_records := f_a_records.step p3; replace f_b_records := f_b_records.step p3; clear p3
 refine Rg_op rfl (op_box (cs := [(Value.slice a_b_records b.records.length c_b_records), (Value.int .i64 b.many), (Value.int .i64 b.synced)]) hs4 rfl rfl ?_)
 intro b6 w7 _ p8 hs9
 replace f_a_records := f_a_records.step p8; replace f_b_records := f_b_records.step p8; clear p8 hs4
 refine Rg_op rfl (op_assign (v := (Value.bool false)) rfl ?_)
 refine Rg_nil ?_
 refine Wp_seq ?_
 refine Wp_region ?_
 refine Rg_op rfl (op_fieldAddr ty52 rfl ty3 (by decide) rfl (rfl : _ = (⟨_, 1, none⟩ : Addr)) ?_)
 refine Rg_op rfl (op_load (cs := [(Value.slice a_a_records a.records.length c_a_records), (Value.int .i64 a.many), (Value.int .i64 a.synced)]) (i := 1) ty3 hs9 rfl rfl rfl ?_)
 refine Rg_op rfl (op_fieldAddr ty52 rfl ty3 (by decide) rfl (rfl : _ = (⟨_, 1, none⟩ : Addr)) ?_)
 refine Rg_op rfl (op_load (cs := [(Value.slice a_b_records b.records.length c_b_records), (Value.int .i64 b.many), (Value.int .i64 b.synced)]) (i := 0) ty3 hs9 rfl rfl rfl ?_)
 refine Rg_op rfl (op_eql rfl rfl ?_)
 refine Rg_op rfl (op_move (v := (Value.bool (decide (a.many = b.many)))) rfl ?_)
 refine Rg_case (fun hg11 => ?_) (fun hg11 => ?_)
 ·
  replace hm := bif_t hm hg11
  refine Rg_opg rfl rfl rfl (op_fieldAddr ty52 rfl ty3 (by decide) rfl (rfl : _ = (⟨_, 2, none⟩ : Addr)) ?_)
  refine Rg_opg rfl rfl rfl (op_load (cs := [(Value.slice a_a_records a.records.length c_a_records), (Value.int .i64 a.many), (Value.int .i64 a.synced)]) (i := 1) ty3 hs9 rfl rfl rfl ?_)
  refine Rg_opg rfl rfl rfl (op_fieldAddr ty52 rfl ty3 (by decide) rfl (rfl : _ = (⟨_, 2, none⟩ : Addr)) ?_)
  refine Rg_opg rfl rfl rfl (op_load (cs := [(Value.slice a_b_records b.records.length c_b_records), (Value.int .i64 b.many), (Value.int .i64 b.synced)]) (i := 0) ty3 hs9 rfl rfl rfl ?_)
  refine Rg_opg rfl rfl rfl (op_eql rfl rfl ?_)
  refine Rg_op rfl (op_pick_t (v := (Value.bool (decide (a.synced = b.synced)))) rfl rfl ?_)
  refine Rg_op rfl (op_move (v := (Value.bool (decide (a.synced = b.synced)))) rfl ?_)
  refine Rg_case (fun hg12 => ?_) (fun hg12 => ?_)
  ·
   replace hm := bif_t hm hg12
   refine Rg_opg rfl rfl rfl (op_fieldAddr ty52 rfl ty22 (by decide) rfl (rfl : _ = (⟨_, 0, none⟩ : Addr)) ?_)
   refine Rg_opg rfl rfl rfl (op_load (cs := [(Value.slice a_a_records a.records.length c_a_records), (Value.int .i64 a.many), (Value.int .i64 a.synced)]) (i := 1) ty22 hs9 rfl rfl rfl ?_)
   refine Rg_opg rfl rfl rfl (op_fieldAddr ty52 rfl ty22 (by decide) rfl (rfl : _ = (⟨_, 0, none⟩ : Addr)) ?_)
   refine Rg_opg rfl rfl rfl (op_load (cs := [(Value.slice a_b_records b.records.length c_b_records), (Value.int .i64 b.many), (Value.int .i64 b.synced)]) (i := 0) ty22 hs9 rfl rfl rfl ?_)
   replace hm := bd hm; obtain ⟨samerecords_1, hv13, hm⟩ := hm
   refine Rg_opg rfl rfl rfl (op_call Try.call37 (c37_overflightref45_SameRecords (a := a.records) (b := b.records) hs9.ltw f_a_records f_b_records hv13) rfl ?_)
   rintro v14 w15 ⟨hx16, h17⟩
   have hs18 := hs9.call hx16
   have p19 := Step.ext (O := ks [(some b6, Obj.cells [(Value.slice a_b_records b.records.length c_b_records), (Value.int .i64 b.many), (Value.int .i64 b.synced)].toArray 52), (some b1, Obj.cells [(Value.slice a_a_records a.records.length c_a_records), (Value.int .i64 a.many), (Value.int .i64 a.synced)].toArray 52)] O) hx16
   clear hx16
   replace f_a_records := f_a_records.step p19; replace f_b_records := f_b_records.step p19; clear p19 hs9
   obtain rfl := h17
   refine Rg_op rfl (op_pick_t (v := (Value.bool samerecords_1)) rfl rfl ?_)
   refine Rg_op rfl (op_assign (v := (Value.bool samerecords_1)) rfl ?_)
   refine Rg_nil ?_
   refine Wp_ret ?_
   have hz := step_all hs18
   replace f_a_records := f_a_records.step hz; replace f_b_records := f_b_records.step hz
   refine ⟨_, (show Closes [] _ _ from rfl), [(Value.bool samerecords_1)], ⟨rfl, trivial⟩, hs18.ext, ?_⟩
   exact Vr.eq (a := vB) (x := samerecords_1) rfl (Option.some.inj hm)
  ·
   replace hm := bif_f hm hg12
   iterate 5 refine Rg_opx rfl (asB_ne rfl rfl) rfl ?_
   refine Rg_op rfl (op_pick_f (v := (Value.bool false)) rfl rfl ?_)
   refine Rg_op rfl (op_assign (v := (Value.bool false)) rfl ?_)
   refine Rg_nil ?_
   refine Wp_ret ?_
   have hz := step_all hs9
   replace f_a_records := f_a_records.step hz; replace f_b_records := f_b_records.step hz
   refine ⟨_, (show Closes [] _ _ from rfl), [(Value.bool false)], ⟨rfl, trivial⟩, hs9.ext, ?_⟩
   exact Vr.eq (a := vB) (x := false) rfl (Option.some.inj hm)
 ·
  replace hm := bif_f hm hg11
  iterate 5 refine Rg_opx rfl (asB_ne rfl rfl) rfl ?_
  refine Rg_op rfl (op_pick_f (v := (Value.bool false)) rfl rfl ?_)
  refine Rg_op rfl (op_move (v := (Value.bool false)) rfl ?_)
  iterate 5 refine Rg_opx rfl (asB_ne rfl rfl) rfl ?_
  refine Rg_op rfl (op_pick_f (v := (Value.bool false)) rfl rfl ?_)
  refine Rg_op rfl (op_assign (v := (Value.bool false)) rfl ?_)
  refine Rg_nil ?_
  refine Wp_ret ?_
  have hz := step_all hs9
  replace f_a_records := f_a_records.step hz; replace f_b_records := f_b_records.step hz
  refine ⟨_, (show Closes [] _ _ from rfl), [(Value.bool false)], ⟨rfl, trivial⟩, hs9.ext, ?_⟩
  exact Vr.eq (a := vB) (x := false) rfl (Option.some.inj hm)

end Go.Fx



set_option linter.unusedVariables false
set_option linter.unusedSimpArgs false
set_option maxRecDepth 100000
set_option maxHeartbeats 0
namespace Go.Fx
open Go Go.RowKit Go.Proofs
def m8_overflightlaw45_JournalAppendSpec (l : XJournal) (b : List UInt8) : Option Bool :=
 (m28_overflightlaw45_sane).bind fun sane_1 =>
 bif (!sane_1) then
  some false
 else
  jn (fun (v_1 : Bool) =>
   bif v_1 then
    some true
   else
    (m30_journal_Append l b).bind fun append_1 =>
    (m31_overflightref45_Append l b).bind fun append_2 =>
    jn (fun (v_2 : Bool) =>
     some v_2)
    (fun k74 =>
     (m32_journal_Check l).bind fun check_1 =>
     (m33_overflightref45_Check l).bind fun check_2 =>
     bif (decide (check_1 = check_2)) then
      (m34_journal_Room l).bind fun room_1 =>
      (m35_overflightref45_Room l).bind fun room_2 =>
      bif (decide (room_1 = room_2)) then
       (m36_overflightref45_Same append_1.1 append_2.1).bind fun same_1 =>
       bif same_1 then
        k74 (decide (append_1.2 = append_2.2))
       else
        k74 false
      else
       k74 false
     else
      k74 false))
  (fun k19 =>
   (m29_overflightlaw45_few (⟨([] : List (List UInt8)), ([] : List XWrite), 0, false⟩ : XDisk) l.records).bind fun few_1 =>
   bif (!few_1) then
    k19 true
   else
    k19 (decide (70000 < (b.length : Int))))

theorem c8_overflightlaw45_JournalAppendSpec {w : World} {O : List Nat} {l : XJournal} {b : List UInt8} {a_l_records : Option Addr} {c_l_records : Nat} {a_b : Option Addr} {c_b : Nat} (hO : ∀ k ∈ O, k < w.heap.size) (f_l_records : SlR (rSl rU8) w O a_l_records c_l_records l.records) (r_l_many : InK .i64 l.many) (r_l_synced : InK .i64 l.synced) (f_b : SlR rU8 w O a_b c_b b) {x : Bool} (hm : m8_overflightlaw45_JournalAppendSpec l b = some x) :
  Ok Try.prog 8 [(Value.agg [(Value.slice a_l_records l.records.length c_l_records), (Value.int .i64 l.many), (Value.int .i64 l.synced)].toArray), (Value.slice a_b b.length c_b)] w O vB x := by
 unfold m8_overflightlaw45_JournalAppendSpec at hm
 refine Fn_of_Wp (n := 55) (xs := [.tmp 4]) Try.func8 rfl Try.ntmps8 Try.results8 rfl ?_
 have hs := St.start hO
 refine Wp_seq ?_
 refine Wp_region ?_
 refine Rg_op rfl (op_box (cs := [(Value.slice a_l_records l.records.length c_l_records), (Value.int .i64 l.many), (Value.int .i64 l.synced)]) hs rfl rfl ?_)
 intro b1 w2 _ p3 hs4
 replace f_l_records := f_l_records.step p3; replace f_b := f_b.step p3; clear p3
 refine Rg_op rfl (op_assign (v := (Value.bool false)) rfl ?_)
 refine Rg_nil ?_
 refine Wp_seq ?_
 refine Wp_seq ?_
 refine Wp_region ?_
 replace hm := bd hm; obtain ⟨sane_1, hv6, hm⟩ := hm
 refine Rg_op rfl (op_call Try.call28 (c28_overflightlaw45_sane  hs4.ltw  hv6) rfl ?_)
 rintro v7 w8 ⟨hx9, h10⟩
 have hs11 := hs4.call hx9
 have p12 := Step.ext (O := ks [(some b1, Obj.cells [(Value.slice a_l_records l.records.length c_l_records), (Value.int .i64 l.many), (Value.int .i64 l.synced)].toArray 52)] O) hx9
 clear hx9
 replace f_l_records := f_l_records.step p12; replace f_b := f_b.step p12; clear p12 hs4
 obtain rfl := h10
 refine Rg_op rfl (op_not rfl ?_)
 refine Rg_nil ?_
 refine Wp_cond rfl (fun hc14 => ?_) (fun hc14 => ?_)
 ·
  replace hm := bif_t hm hc14
  refine Wp_seq ?_
  obtain ⟨hs15, p16⟩ := hs11.sub (bs' := []) (.cons _ List.Sublist.slnil)
  clear f_l_records f_b
  clear p16 hs11
  refine Wp_region ?_
  refine Rg_op rfl (op_assign (v := (Value.bool false)) rfl ?_)
  refine Rg_nil ?_
  refine Wp_ret ?_
  have hz := step_all hs15
  refine ⟨_, (show Closes [] _ _ from rfl), [(Value.bool false)], ⟨rfl, trivial⟩, hs15.ext, ?_⟩
  exact Vr.eq (a := vB) (x := false) rfl (Option.some.inj hm)
 ·
  replace hm := bif_f hm hc14
  refine Wp_skip ?_
  refine Wp_seq ?_
  refine Wp_reset [] [(1, (Value.slice a_b b.length c_b)), (2, (Value.pointer (some ⟨b1, 0, none⟩)))] rfl ⟨rfl, rfl, trivial⟩ fun ξ17 => ?_
  replace hm := jn_elim hm; obtain ⟨k19, hk20, hm⟩ := hm
  refine Wp_seqJ [11, 12, 13, 14, 15, 16, 17, 18, 19, 20] (fun fr w' => ∃ (v_1 : Bool) (Ebs : Ents), Ebs = [(some b1, Obj.cells [(Value.slice a_l_records l.records.length c_l_records), (Value.int .i64 l.many), (Value.int .i64 l.synced)].toArray 52)] ∧ fr [] [(20, (Value.bool v_1))] ∧ Step (ks [(some b1, Obj.cells [(Value.slice a_l_records l.records.length c_l_records), (Value.int .i64 l.many), (Value.int .i64 l.synced)].toArray 52)] O) w8 (ks Ebs O) w' ∧ St ⟨w, [], []⟩ O w' Ebs ∧ k19 v_1 = some x) ?_ ?_
  ·
   rintro ρ26 w22 ⟨v_1, Ebs, hEbs, hfr25, hst24, hs23, hm⟩
   replace hm := jnE1 hk20 hm
   subst hEbs; rw [hfr25.eq]; clear hfr25
   replace f_l_records := f_l_records.step hst24; replace f_b := f_b.step hst24; clear hst24 hs11
   refine Wp_cond rfl (fun hc27 => ?_) (fun hc27 => ?_)
   ·
    replace hm := bif_t hm hc27
    refine Wp_seq ?_
    obtain ⟨hs28, p29⟩ := hs23.sub (bs' := []) (.cons _ List.Sublist.slnil)
    clear f_l_records f_b
    clear p29 hs23
    refine Wp_region ?_
    refine Rg_op rfl (op_assign (v := (Value.bool true)) rfl ?_)
    refine Rg_nil ?_
    refine Wp_ret ?_
    have hz := step_all hs28
    refine ⟨_, (show Closes [] _ _ from rfl), [(Value.bool true)], ⟨rfl, trivial⟩, hs28.ext, ?_⟩
    exact Vr.eq (a := vB) (x := true) rfl (Option.some.inj hm)
   ·
    replace hm := bif_f hm hc27
    refine Wp_skip ?_
    refine Wp_seq ?_
    refine Wp_region ?_
    refine Rg_op rfl (op_loadA (cs := [(Value.slice a_l_records l.records.length c_l_records), (Value.int .i64 l.many), (Value.int .i64 l.synced)]) (vs := [(Value.slice a_l_records l.records.length c_l_records), (Value.int .i64 l.many), (Value.int .i64 l.synced)]) (i := 0) ty52 hs23 rfl rfl rfl rfl ?_)
    refine Rg_op rfl (op_move (v := (Value.slice a_b b.length c_b)) rfl ?_)
    replace hm := bd hm; obtain ⟨append_1, hv30, hm⟩ := hm
    refine Rg_op rfl (op_call Try.call30 (c30_journal_Append (l := l) (b := b) hs23.ltw f_l_records r_l_many r_l_synced f_b hv30) rfl ?_)
    rintro v31 w32 ⟨hx33, h34⟩
    have hs35 := hs23.call hx33
    have p36 := Step.ext (O := ks [(some b1, Obj.cells [(Value.slice a_l_records l.records.length c_l_records), (Value.int .i64 l.many), (Value.int .i64 l.synced)].toArray 52)] O) hx33
    clear hx33
    replace f_l_records := f_l_records.step p36; replace f_b := f_b.step p36; clear p36 hs23
    obtain ⟨v37, v38, rfl, h39, h40⟩ := h34
    obtain ⟨_, rfl, ⟨_, _, rfl, ⟨a_y41_records, c_y41_records, rfl, f_y41_records⟩, ⟨_, _, rfl, ⟨rfl, r_y41_many⟩, ⟨rfl, r_y41_synced⟩⟩⟩⟩ := h39
    obtain ⟨rfl, r_y42⟩ := h40
    refine Rg_op rfl (op_move (v := (Value.tuple [(Value.agg [(Value.slice a_y41_records append_1.1.records.length c_y41_records), (Value.int .i64 append_1.1.many), (Value.int .i64 append_1.1.synced)].toArray), (Value.int .i64 append_1.2)].toArray)) rfl ?_)
    refine Rg_op rfl (op_extract (v := (Value.agg [(Value.slice a_y41_records append_1.1.records.length c_y41_records), (Value.int .i64 append_1.1.many), (Value.int .i64 append_1.1.synced)].toArray)) rfl rfl ?_)
    refine Rg_op rfl (op_extract (v := (Value.int .i64 append_1.2)) rfl rfl ?_)
    refine Rg_op rfl (op_alloc ty52 hs35 ?_)
    intro b43 w44 _ p45 hs46
    replace f_l_records := f_l_records.step p45; replace f_b := f_b.step p45; replace f_y41_records := f_y41_records.step p45; clear p45 hs35
    refine Rg_op_ (op_store (cs := [(Value.slice none 0 0), (Value.int .i64 0), (Value.int .i64 0)]) (vs := [(Value.slice a_y41_records append_1.1.records.length c_y41_records), (Value.int .i64 append_1.1.many), (Value.int .i64 append_1.1.synced)]) (cs' := [(Value.slice a_y41_records append_1.1.records.length c_y41_records), (Value.int .i64 append_1.1.many), (Value.int .i64 append_1.1.synced)]) (bs' := [(some b43, Obj.cells [(Value.slice a_y41_records append_1.1.records.length c_y41_records), (Value.int .i64 append_1.1.many), (Value.int .i64 append_1.1.synced)].toArray 52), (some b1, Obj.cells [(Value.slice a_l_records l.records.length c_l_records), (Value.int .i64 l.many), (Value.int .i64 l.synced)].toArray 52)]) (i := 0) ty52 hs46 rfl rfl rfl rfl rfl (le_lit rfl) rfl rfl rfl ?_)
    intro w48 p49 hs50
    replace f_l_records := f_l_records.step p49; replace f_b := f_b.step p49; replace f_y41_records := f_y41_records.step p49; clear p49 hs46
    refine Rg_op rfl (op_assign (v := (Value.int .i64 append_1.2)) rfl ?_)
    refine Rg_nil ?_
    refine Wp_seq ?_
    refine Wp_region ?_
    refine Rg_op rfl (op_loadA (cs := [(Value.slice a_l_records l.records.length c_l_records), (Value.int .i64 l.many), (Value.int .i64 l.synced)]) (vs := [(Value.slice a_l_records l.records.length c_l_records), (Value.int .i64 l.many), (Value.int .i64 l.synced)]) (i := 1) ty52 hs50 rfl rfl rfl rfl ?_)
    refine Rg_op rfl (op_move (v := (Value.slice a_b b.length c_b)) rfl ?_)
    replace hm := bd hm; obtain ⟨append_2, hv51, hm⟩ := hm
    refine Rg_op rfl (op_call Try.call31 (c31_overflightref45_Append (l := l) (b := b) hs50.ltw f_l_records r_l_many r_l_synced f_b hv51) rfl ?_)
    rintro v52 w53 ⟨hx54, h55⟩
    have hs56 := hs50.call hx54
    have p57 := Step.ext (O := ks [(some b43, Obj.cells [(Value.slice a_y41_records append_1.1.records.length c_y41_records), (Value.int .i64 append_1.1.many), (Value.int .i64 append_1.1.synced)].toArray 52), (some b1, Obj.cells [(Value.slice a_l_records l.records.length c_l_records), (Value.int .i64 l.many), (Value.int .i64 l.synced)].toArray 52)] O) hx54
    clear hx54
    replace f_l_records := f_l_records.step p57; replace f_b := f_b.step p57; replace f_y41_records := f_y41_records.step p57; clear p57 hs50
    obtain ⟨v58, v59, rfl, h60, h61⟩ := h55
    obtain ⟨_, rfl, ⟨_, _, rfl, ⟨a_y62_records, c_y62_records, rfl, f_y62_records⟩, ⟨_, _, rfl, ⟨rfl, r_y62_many⟩, ⟨rfl, r_y62_synced⟩⟩⟩⟩ := h60
    obtain ⟨rfl, r_y63⟩ := h61
    refine Rg_op rfl (op_move (v := (Value.tuple [(Value.agg [(Value.slice a_y62_records append_2.1.records.length c_y62_records), (Value.int .i64 append_2.1.many), (Value.int .i64 append_2.1.synced)].toArray), (Value.int .i64 append_2.2)].toArray)) rfl ?_)
    refine Rg_op rfl (op_extract (v := (Value.agg [(Value.slice a_y62_records append_2.1.records.length c_y62_records), (Value.int .i64 append_2.1.many), (Value.int .i64 append_2.1.synced)].toArray)) rfl rfl ?_)
    refine Rg_op rfl (op_extract (v := (Value.int .i64 append_2.2)) rfl rfl ?_)
    refine Rg_op rfl (op_alloc ty52 hs56 ?_)
    intro b64 w65 _ p66 hs67
    replace f_l_records := f_l_records.step p66; replace f_b := f_b.step p66; replace f_y41_records := f_y41_records.step p66; replace f_y62_records := f_y62_records.step p66; clear p66 hs56
    refine Rg_op_ (op_store (cs := [(Value.slice none 0 0), (Value.int .i64 0), (Value.int .i64 0)]) (vs := [(Value.slice a_y62_records append_2.1.records.length c_y62_records), (Value.int .i64 append_2.1.many), (Value.int .i64 append_2.1.synced)]) (cs' := [(Value.slice a_y62_records append_2.1.records.length c_y62_records), (Value.int .i64 append_2.1.many), (Value.int .i64 append_2.1.synced)]) (bs' := [(some b64, Obj.cells [(Value.slice a_y62_records append_2.1.records.length c_y62_records), (Value.int .i64 append_2.1.many), (Value.int .i64 append_2.1.synced)].toArray 52), (some b43, Obj.cells [(Value.slice a_y41_records append_1.1.records.length c_y41_records), (Value.int .i64 append_1.1.many), (Value.int .i64 append_1.1.synced)].toArray 52), (some b1, Obj.cells [(Value.slice a_l_records l.records.length c_l_records), (Value.int .i64 l.many), (Value.int .i64 l.synced)].toArray 52)]) (i := 0) ty52 hs67 rfl rfl rfl rfl rfl (le_lit rfl) rfl rfl rfl ?_)
    intro w69 p70 hs71
    replace f_l_records := f_l_records.step p70; replace f_b := f_b.step p70; replace f_y41_records := f_y41_records.step p70; replace f_y62_records := f_y62_records.step p70; clear p70 hs67
    refine Rg_op rfl (op_assign (v := (Value.int .i64 append_2.2)) rfl ?_)
    refine Rg_nil ?_
    refine Wp_reset [] [(2, (Value.pointer (some ⟨b1, 0, none⟩))), (5, (Value.pointer (some ⟨b43, 0, none⟩))), (6, (Value.int .i64 append_1.2)), (7, (Value.pointer (some ⟨b64, 0, none⟩))), (8, (Value.int .i64 append_2.2))] rfl ⟨rfl, rfl, rfl, rfl, rfl, trivial⟩ fun ξ72 => ?_
    replace hm := jn_elim hm; obtain ⟨k74, hk75, hm⟩ := hm
    refine Wp_seqJ [4, 33, 34, 35, 36, 37, 38, 39, 40, 41, 42, 43, 44, 45, 46, 47, 48, 49, 50, 51, 52, 53, 54] (fun fr w' => ∃ (v_2 : Bool) (Ebs : Ents), Ebs = [(some b64, Obj.cells [(Value.slice a_y62_records append_2.1.records.length c_y62_records), (Value.int .i64 append_2.1.many), (Value.int .i64 append_2.1.synced)].toArray 52), (some b43, Obj.cells [(Value.slice a_y41_records append_1.1.records.length c_y41_records), (Value.int .i64 append_1.1.many), (Value.int .i64 append_1.1.synced)].toArray 52), (some b1, Obj.cells [(Value.slice a_l_records l.records.length c_l_records), (Value.int .i64 l.many), (Value.int .i64 l.synced)].toArray 52)] ∧ fr [] [(4, (Value.bool v_2))] ∧ Step (ks [(some b64, Obj.cells [(Value.slice a_y62_records append_2.1.records.length c_y62_records), (Value.int .i64 append_2.1.many), (Value.int .i64 append_2.1.synced)].toArray 52), (some b43, Obj.cells [(Value.slice a_y41_records append_1.1.records.length c_y41_records), (Value.int .i64 append_1.1.many), (Value.int .i64 append_1.1.synced)].toArray 52), (some b1, Obj.cells [(Value.slice a_l_records l.records.length c_l_records), (Value.int .i64 l.many), (Value.int .i64 l.synced)].toArray 52)] O) w69 (ks Ebs O) w' ∧ St ⟨w, [], []⟩ O w' Ebs ∧ k74 v_2 = some x) ?_ ?_
    ·
     rintro ρ81 w77 ⟨v_2, Ebs, hEbs, hfr80, hst79, hs78, hm⟩
     replace hm := jnE1 hk75 hm
     subst hEbs; rw [hfr80.eq]; clear hfr80
     replace f_l_records := f_l_records.step hst79; replace f_b := f_b.step hst79; replace f_y41_records := f_y41_records.step hst79; replace f_y62_records := f_y62_records.step hst79; clear hst79 hs71
     refine Wp_ret ?_
     have hz := step_all hs78
     replace f_l_records := f_l_records.step hz; replace f_b := f_b.step hz; replace f_y41_records := f_y41_records.step hz; replace f_y62_records := f_y62_records.step hz
     refine ⟨_, (show Closes [] _ _ from rfl), [(Value.bool v_2)], ⟨rfl, trivial⟩, hs78.ext, ?_⟩
     exact Vr.eq (a := vB) (x := v_2) rfl (Option.some.inj hm)
    ·
     intro K76 hK76
     have ch82 := Step.refl (ks [(some b64, Obj.cells [(Value.slice a_y62_records append_2.1.records.length c_y62_records), (Value.int .i64 append_2.1.many), (Value.int .i64 append_2.1.synced)].toArray 52), (some b43, Obj.cells [(Value.slice a_y41_records append_1.1.records.length c_y41_records), (Value.int .i64 append_1.1.many), (Value.int .i64 append_1.1.synced)].toArray 52), (some b1, Obj.cells [(Value.slice a_l_records l.records.length c_l_records), (Value.int .i64 l.many), (Value.int .i64 l.synced)].toArray 52)] O) w69
     clear f_b
     refine Wp_drawR (g0 := []) (m := 20) (fl := []) (TS_inv hs71) (.inl rfl) rfl (by decide +kernel) ?_  -- 7
     refine Dw_eq (Value.agg [(Value.slice a_l_records l.records.length c_l_records), (Value.int .i64 l.many), (Value.int .i64 l.synced)].toArray) (fun ρ83 w84 g hle hi ht => ?_) ?_
     ·
      obtain ⟨-, hst, -⟩ := hle
      have hsn := (Step.nx hi).1
      refine StepOp_plain (op_loadA (cs := [(Value.slice a_l_records l.records.length c_l_records), (Value.int .i64 l.many), (Value.int .i64 l.synced)]) (vs := [(Value.slice a_l_records l.records.length c_l_records), (Value.int .i64 l.many), (Value.int .i64 l.synced)]) (i := 2) ty52 hsn (ht 2 rfl) rfl rfl rfl ?_)
      exact Goes.same hi rfl
     replace hm := bd hm; obtain ⟨check_1, hv89, hm⟩ := hm
     refine Dw_op (VD O [(some b64, Obj.cells [(Value.slice a_y62_records append_2.1.records.length c_y62_records), (Value.int .i64 append_2.1.many), (Value.int .i64 append_2.1.synced)].toArray 52), (some b43, Obj.cells [(Value.slice a_y41_records append_1.1.records.length c_y41_records), (Value.int .i64 append_1.1.many), (Value.int .i64 append_1.1.synced)].toArray 52), (some b1, Obj.cells [(Value.slice a_l_records l.records.length c_l_records), (Value.int .i64 l.many), (Value.int .i64 l.synced)].toArray 52)] (vI .i64) check_1) (VD.stab _ _) (fun ρ86 w87 g hle hi ht => ?_) ?_
     ·
      obtain ⟨-, hst, -⟩ := hle
      replace f_l_records := f_l_records.step hst
      refine StepOp_plain (op_call Try.call32 (c32_journal_Check (O := ks (ents g ++ [(some b64, Obj.cells [(Value.slice a_y62_records append_2.1.records.length c_y62_records), (Value.int .i64 append_2.1.many), (Value.int .i64 append_2.1.synced)].toArray 52), (some b43, Obj.cells [(Value.slice a_y41_records append_1.1.records.length c_y41_records), (Value.int .i64 append_1.1.many), (Value.int .i64 append_1.1.synced)].toArray 52), (some b1, Obj.cells [(Value.slice a_l_records l.records.length c_l_records), (Value.int .i64 l.many), (Value.int .i64 l.synced)].toArray 52)]) O) (l := l) hi.ltw f_l_records r_l_many r_l_synced hv89) (by simp only [List.map, Array.toList, (show ev _ (.tmp 33) = _ from (ht 33 rfl))] <;> rfl) ?_)
      rintro v90 w91 ⟨hx92, h93⟩
      exact Goes.call hi hx92 h93
     refine Dw_eq (Value.agg [(Value.slice a_l_records l.records.length c_l_records), (Value.int .i64 l.many), (Value.int .i64 l.synced)].toArray) (fun ρ95 w96 g hle hi ht => ?_) ?_
     ·
      obtain ⟨-, hst, -⟩ := hle
      have hsn := (Step.nx hi).1
      refine StepOp_plain (op_loadA (cs := [(Value.slice a_l_records l.records.length c_l_records), (Value.int .i64 l.many), (Value.int .i64 l.synced)]) (vs := [(Value.slice a_l_records l.records.length c_l_records), (Value.int .i64 l.many), (Value.int .i64 l.synced)]) (i := 2) ty52 hsn (ht 2 rfl) rfl rfl rfl ?_)
      exact Goes.same hi rfl
     replace hm := bd hm; obtain ⟨check_2, hv101, hm⟩ := hm
     refine Dw_op (VD O [(some b64, Obj.cells [(Value.slice a_y62_records append_2.1.records.length c_y62_records), (Value.int .i64 append_2.1.many), (Value.int .i64 append_2.1.synced)].toArray 52), (some b43, Obj.cells [(Value.slice a_y41_records append_1.1.records.length c_y41_records), (Value.int .i64 append_1.1.many), (Value.int .i64 append_1.1.synced)].toArray 52), (some b1, Obj.cells [(Value.slice a_l_records l.records.length c_l_records), (Value.int .i64 l.many), (Value.int .i64 l.synced)].toArray 52)] (vI .i64) check_2) (VD.stab _ _) (fun ρ98 w99 g hle hi ht => ?_) ?_
     ·
      obtain ⟨-, hst, -⟩ := hle
      replace f_l_records := f_l_records.step hst
      refine StepOp_plain (op_call Try.call33 (c33_overflightref45_Check (O := ks (ents g ++ [(some b64, Obj.cells [(Value.slice a_y62_records append_2.1.records.length c_y62_records), (Value.int .i64 append_2.1.many), (Value.int .i64 append_2.1.synced)].toArray 52), (some b43, Obj.cells [(Value.slice a_y41_records append_1.1.records.length c_y41_records), (Value.int .i64 append_1.1.many), (Value.int .i64 append_1.1.synced)].toArray 52), (some b1, Obj.cells [(Value.slice a_l_records l.records.length c_l_records), (Value.int .i64 l.many), (Value.int .i64 l.synced)].toArray 52)]) O) (l := l) hi.ltw f_l_records r_l_many r_l_synced hv101) (by simp only [List.map, Array.toList, (show ev _ (.tmp 35) = _ from (ht 35 rfl))] <;> rfl) ?_)
      rintro v102 w103 ⟨hx104, h105⟩
      exact Goes.call hi hx104 h105
     refine Dw_eq (Value.bool (decide (check_1 = check_2))) (fun ρ107 w108 g hle hi ht => ?_) ?_
     ·
      obtain ⟨-, hst, -⟩ := hle
      have h110 : Vr.vd (vI .i64) _ _ _ _ := ht 34 rfl
      obtain ⟨q111, r_y112⟩ := h110
      have h113 : Vr.vd (vI .i64) _ _ _ _ := ht 36 rfl
      obtain ⟨q114, r_y115⟩ := h113
      refine StepOp_plain (op_eql q111 q114 ?_)
      exact Goes.same hi rfl
     refine Dw_opB (decide (check_1 = check_2)) (fun ρ116 w117 g hle hi ht => ?_) (fun hg119 => ?_) (fun hg119 => ?_)
     ·
      obtain ⟨-, hst, -⟩ := hle
      refine StepOp_plain (op_move (v := (Value.bool (decide (check_1 = check_2)))) (ht 37 rfl) ?_)
      exact Goes.same hi rfl
     ·
      replace hm := bif_t hm hg119
      refine Dw_eq (Value.agg [(Value.slice a_l_records l.records.length c_l_records), (Value.int .i64 l.many), (Value.int .i64 l.synced)].toArray) (fun ρ120 w121 g hle hi ht => ?_) ?_
      ·
       obtain ⟨-, hst, -⟩ := hle
       have hsn := (Step.nx hi).1
       refine StepOp_g rfl (ht 38 rfl) (op_loadA (cs := [(Value.slice a_l_records l.records.length c_l_records), (Value.int .i64 l.many), (Value.int .i64 l.synced)]) (vs := [(Value.slice a_l_records l.records.length c_l_records), (Value.int .i64 l.many), (Value.int .i64 l.synced)]) (i := 2) ty52 hsn (ht 2 rfl) rfl rfl rfl ?_)
       exact Goes.same hi rfl
      replace hm := bd hm; obtain ⟨room_1, hv126, hm⟩ := hm
      refine Dw_op (VD O [(some b64, Obj.cells [(Value.slice a_y62_records append_2.1.records.length c_y62_records), (Value.int .i64 append_2.1.many), (Value.int .i64 append_2.1.synced)].toArray 52), (some b43, Obj.cells [(Value.slice a_y41_records append_1.1.records.length c_y41_records), (Value.int .i64 append_1.1.many), (Value.int .i64 append_1.1.synced)].toArray 52), (some b1, Obj.cells [(Value.slice a_l_records l.records.length c_l_records), (Value.int .i64 l.many), (Value.int .i64 l.synced)].toArray 52)] (vI .i64) room_1) (VD.stab _ _) (fun ρ123 w124 g hle hi ht => ?_) ?_
      ·
       obtain ⟨-, hst, -⟩ := hle
       replace f_l_records := f_l_records.step hst
       refine StepOp_g rfl (ht 38 rfl) (op_call Try.call34 (c34_journal_Room (O := ks (ents g ++ [(some b64, Obj.cells [(Value.slice a_y62_records append_2.1.records.length c_y62_records), (Value.int .i64 append_2.1.many), (Value.int .i64 append_2.1.synced)].toArray 52), (some b43, Obj.cells [(Value.slice a_y41_records append_1.1.records.length c_y41_records), (Value.int .i64 append_1.1.many), (Value.int .i64 append_1.1.synced)].toArray 52), (some b1, Obj.cells [(Value.slice a_l_records l.records.length c_l_records), (Value.int .i64 l.many), (Value.int .i64 l.synced)].toArray 52)]) O) (l := l) hi.ltw f_l_records r_l_many r_l_synced hv126) (by simp only [List.map, Array.toList, (show ev _ (.tmp 39) = _ from (ht 39 rfl))] <;> rfl) ?_)
       rintro v127 w128 ⟨hx129, h130⟩
       exact Goes.call hi hx129 h130
      refine Dw_eq (Value.agg [(Value.slice a_l_records l.records.length c_l_records), (Value.int .i64 l.many), (Value.int .i64 l.synced)].toArray) (fun ρ132 w133 g hle hi ht => ?_) ?_
      ·
       obtain ⟨-, hst, -⟩ := hle
       have hsn := (Step.nx hi).1
       refine StepOp_g rfl (ht 38 rfl) (op_loadA (cs := [(Value.slice a_l_records l.records.length c_l_records), (Value.int .i64 l.many), (Value.int .i64 l.synced)]) (vs := [(Value.slice a_l_records l.records.length c_l_records), (Value.int .i64 l.many), (Value.int .i64 l.synced)]) (i := 2) ty52 hsn (ht 2 rfl) rfl rfl rfl ?_)
       exact Goes.same hi rfl
      replace hm := bd hm; obtain ⟨room_2, hv138, hm⟩ := hm
      refine Dw_op (VD O [(some b64, Obj.cells [(Value.slice a_y62_records append_2.1.records.length c_y62_records), (Value.int .i64 append_2.1.many), (Value.int .i64 append_2.1.synced)].toArray 52), (some b43, Obj.cells [(Value.slice a_y41_records append_1.1.records.length c_y41_records), (Value.int .i64 append_1.1.many), (Value.int .i64 append_1.1.synced)].toArray 52), (some b1, Obj.cells [(Value.slice a_l_records l.records.length c_l_records), (Value.int .i64 l.many), (Value.int .i64 l.synced)].toArray 52)] (vI .i64) room_2) (VD.stab _ _) (fun ρ135 w136 g hle hi ht => ?_) ?_
      ·
       obtain ⟨-, hst, -⟩ := hle
       replace f_l_records := f_l_records.step hst
       refine StepOp_g rfl (ht 38 rfl) (op_call Try.call35 (c35_overflightref45_Room (O := ks (ents g ++ [(some b64, Obj.cells [(Value.slice a_y62_records append_2.1.records.length c_y62_records), (Value.int .i64 append_2.1.many), (Value.int .i64 append_2.1.synced)].toArray 52), (some b43, Obj.cells [(Value.slice a_y41_records append_1.1.records.length c_y41_records), (Value.int .i64 append_1.1.many), (Value.int .i64 append_1.1.synced)].toArray 52), (some b1, Obj.cells [(Value.slice a_l_records l.records.length c_l_records), (Value.int .i64 l.many), (Value.int .i64 l.synced)].toArray 52)]) O) (l := l) hi.ltw f_l_records r_l_many r_l_synced hv138) (by simp only [List.map, Array.toList, (show ev _ (.tmp 41) = _ from (ht 41 rfl))] <;> rfl) ?_)
       rintro v139 w140 ⟨hx141, h142⟩
       exact Goes.call hi hx141 h142
      refine Dw_eq (Value.bool (decide (room_1 = room_2))) (fun ρ144 w145 g hle hi ht => ?_) ?_
      ·
       obtain ⟨-, hst, -⟩ := hle
       have h147 : Vr.vd (vI .i64) _ _ _ _ := ht 40 rfl
       obtain ⟨q148, r_y149⟩ := h147
       have h150 : Vr.vd (vI .i64) _ _ _ _ := ht 42 rfl
       obtain ⟨q151, r_y152⟩ := h150
       refine StepOp_g rfl (ht 38 rfl) (op_eql q148 q151 ?_)
       exact Goes.same hi rfl
      refine Dw_eq (Value.bool (decide (room_1 = room_2))) (fun ρ153 w154 g hle hi ht => ?_) ?_
      ·
       obtain ⟨-, hst, -⟩ := hle
       refine StepOp_plain (op_pick_t (v := (Value.bool (decide (room_1 = room_2)))) (ht 38 rfl) (ht 43 rfl) ?_)
       exact Goes.same hi rfl
      refine Dw_opB (decide (room_1 = room_2)) (fun ρ156 w157 g hle hi ht => ?_) (fun hg159 => ?_) (fun hg159 => ?_)
      ·
       obtain ⟨-, hst, -⟩ := hle
       refine StepOp_plain (op_move (v := (Value.bool (decide (room_1 = room_2)))) (ht 44 rfl) ?_)
       exact Goes.same hi rfl
      ·
       replace hm := bif_t hm hg159
       refine Dw_eq (Value.agg [(Value.slice a_y41_records append_1.1.records.length c_y41_records), (Value.int .i64 append_1.1.many), (Value.int .i64 append_1.1.synced)].toArray) (fun ρ160 w161 g hle hi ht => ?_) ?_
       ·
        obtain ⟨-, hst, -⟩ := hle
        have hsn := (Step.nx hi).1
        refine StepOp_g rfl (ht 45 rfl) (op_loadA (cs := [(Value.slice a_y41_records append_1.1.records.length c_y41_records), (Value.int .i64 append_1.1.many), (Value.int .i64 append_1.1.synced)]) (vs := [(Value.slice a_y41_records append_1.1.records.length c_y41_records), (Value.int .i64 append_1.1.many), (Value.int .i64 append_1.1.synced)]) (i := 1) ty52 hsn (ht 5 rfl) rfl rfl rfl ?_)
        exact Goes.same hi rfl
       refine Dw_eq (Value.agg [(Value.slice a_y62_records append_2.1.records.length c_y62_records), (Value.int .i64 append_2.1.many), (Value.int .i64 append_2.1.synced)].toArray) (fun ρ163 w164 g hle hi ht => ?_) ?_
       ·
        obtain ⟨-, hst, -⟩ := hle
        have hsn := (Step.nx hi).1
        refine StepOp_g rfl (ht 45 rfl) (op_loadA (cs := [(Value.slice a_y62_records append_2.1.records.length c_y62_records), (Value.int .i64 append_2.1.many), (Value.int .i64 append_2.1.synced)]) (vs := [(Value.slice a_y62_records append_2.1.records.length c_y62_records), (Value.int .i64 append_2.1.many), (Value.int .i64 append_2.1.synced)]) (i := 0) ty52 hsn (ht 7 rfl) rfl rfl rfl ?_)
        exact Goes.same hi rfl
       replace hm := bd hm; obtain ⟨same_1, hv169, hm⟩ := hm
       refine Dw_op (VD O [(some b64, Obj.cells [(Value.slice a_y62_records append_2.1.records.length c_y62_records), (Value.int .i64 append_2.1.many), (Value.int .i64 append_2.1.synced)].toArray 52), (some b43, Obj.cells [(Value.slice a_y41_records append_1.1.records.length c_y41_records), (Value.int .i64 append_1.1.many), (Value.int .i64 append_1.1.synced)].toArray 52), (some b1, Obj.cells [(Value.slice a_l_records l.records.length c_l_records), (Value.int .i64 l.many), (Value.int .i64 l.synced)].toArray 52)] vB same_1) (VD.stab _ _) (fun ρ166 w167 g hle hi ht => ?_) ?_
       ·
        obtain ⟨-, hst, -⟩ := hle
        replace f_y41_records := f_y41_records.step hst; replace f_y62_records := f_y62_records.step hst
        refine StepOp_g rfl (ht 45 rfl) (op_call Try.call36 (c36_overflightref45_Same (O := ks (ents g ++ [(some b64, Obj.cells [(Value.slice a_y62_records append_2.1.records.length c_y62_records), (Value.int .i64 append_2.1.many), (Value.int .i64 append_2.1.synced)].toArray 52), (some b43, Obj.cells [(Value.slice a_y41_records append_1.1.records.length c_y41_records), (Value.int .i64 append_1.1.many), (Value.int .i64 append_1.1.synced)].toArray 52), (some b1, Obj.cells [(Value.slice a_l_records l.records.length c_l_records), (Value.int .i64 l.many), (Value.int .i64 l.synced)].toArray 52)]) O) (a := append_1.1) (b := append_2.1) hi.ltw f_y41_records r_y41_many r_y41_synced f_y62_records r_y62_many r_y62_synced hv169) (by simp only [List.map, Array.toList, (show ev _ (.tmp 46) = _ from (ht 46 rfl)), (show ev _ (.tmp 47) = _ from (ht 47 rfl))] <;> rfl) ?_)
        rintro v170 w171 ⟨hx172, h173⟩
        exact Goes.call hi hx172 h173
       refine Dw_eq (Value.bool same_1) (fun ρ175 w176 g hle hi ht => ?_) ?_
       ·
        obtain ⟨-, hst, -⟩ := hle
        have h178 : Vr.vd vB _ _ _ _ := ht 48 rfl
        have q179 : _ = (Value.bool same_1) := h178
        refine StepOp_plain (op_pick_t (v := (Value.bool same_1)) (ht 45 rfl) q179 ?_)
        exact Goes.same hi rfl
       refine Dw_opB same_1 (fun ρ181 w182 g hle hi ht => ?_) (fun hg184 => ?_) (fun hg184 => ?_)
       ·
        obtain ⟨-, hst, -⟩ := hle
        refine StepOp_plain (op_move (v := (Value.bool same_1)) (ht 49 rfl) ?_)
        exact Goes.same hi rfl
       ·
        replace hm := bif_t hm hg184
        refine Dw_eq (Value.int .i64 append_1.2) (fun ρ185 w186 g hle hi ht => ?_) ?_
        ·
         obtain ⟨-, hst, -⟩ := hle
         refine StepOp_g rfl (ht 50 rfl) (op_move (v := (Value.int .i64 append_1.2)) (ht 6 rfl) ?_)
         exact Goes.same hi rfl
        refine Dw_eq (Value.int .i64 append_2.2) (fun ρ188 w189 g hle hi ht => ?_) ?_
        ·
         obtain ⟨-, hst, -⟩ := hle
         refine StepOp_g rfl (ht 50 rfl) (op_move (v := (Value.int .i64 append_2.2)) (ht 8 rfl) ?_)
         exact Goes.same hi rfl
        refine Dw_nil fun w195 g196 hl197 hi198 => ?_
        obtain ⟨-, hst199, -⟩ := hl197
        obtain ⟨hs201, p200⟩ := Step.nx hi198
        rintro _ rfl
        rintro _ rfl
        rintro _ rfl
        rintro _ rfl
        rintro v202 h203
        replace h203 : Vr.vd vB _ _ _ _ := h203
        obtain rfl := h203
        rintro _ rfl
        rintro _ rfl
        rintro _ rfl
        rintro _ rfl
        rintro _ rfl
        rintro v205 h206
        replace h206 : Vr.vd (vI .i64) _ _ _ _ := h206
        obtain ⟨rfl, r_y207⟩ := h206
        rintro _ rfl
        rintro v208 h209
        replace h209 : Vr.vd (vI .i64) _ _ _ _ := h209
        obtain ⟨rfl, r_y210⟩ := h209
        rintro _ rfl
        rintro _ rfl
        rintro _ rfl
        rintro v211 h212
        replace h212 : Vr.vd (vI .i64) _ _ _ _ := h212
        obtain ⟨rfl, r_y213⟩ := h212
        rintro _ rfl
        rintro v214 h215
        replace h215 : Vr.vd (vI .i64) _ _ _ _ := h215
        obtain ⟨rfl, r_y216⟩ := h215
        rintro _ rfl
        have p217 : Step (ks [(some b64, Obj.cells [(Value.slice a_y62_records append_2.1.records.length c_y62_records), (Value.int .i64 append_2.1.many), (Value.int .i64 append_2.1.synced)].toArray 52), (some b43, Obj.cells [(Value.slice a_y41_records append_1.1.records.length c_y41_records), (Value.int .i64 append_1.1.many), (Value.int .i64 append_1.1.synced)].toArray 52), (some b1, Obj.cells [(Value.slice a_l_records l.records.length c_l_records), (Value.int .i64 l.many), (Value.int .i64 l.synced)].toArray 52)] O) w69 (ks [(some b64, Obj.cells [(Value.slice a_y62_records append_2.1.records.length c_y62_records), (Value.int .i64 append_2.1.many), (Value.int .i64 append_2.1.synced)].toArray 52), (some b43, Obj.cells [(Value.slice a_y41_records append_1.1.records.length c_y41_records), (Value.int .i64 append_1.1.many), (Value.int .i64 append_1.1.synced)].toArray 52), (some b1, Obj.cells [(Value.slice a_l_records l.records.length c_l_records), (Value.int .i64 l.many), (Value.int .i64 l.synced)].toArray 52)] O) w195 := hst199.trans p200
        replace f_l_records := f_l_records.step p217; replace f_y41_records := f_y41_records.step p217; replace f_y62_records := f_y62_records.step p217; replace ch82 := ch82.trans p217; clear p217 hs71
        refine Rg_opg rfl rfl rfl (op_eql rfl rfl ?_)
        refine Rg_op rfl (op_pick_t (v := (Value.bool (decide (append_1.2 = append_2.2)))) rfl rfl ?_)
        refine Rg_op rfl (op_assign (v := (Value.bool (decide (append_1.2 = append_2.2)))) rfl ?_)
        refine Rg_nil ?_
        exact hK76 _ _ ⟨(decide (append_1.2 = append_2.2)), _, rfl, ⟨(by repeat (first | with_reducible exact Out.refl _ _ | refine Out.upd ?_ rfl | refine Out.updL ?_ rfl | refine Out.mix' ?_ rfl | exact Out.refl _ _)), rfl, rfl, trivial⟩, ch82, hs201, hm⟩
       ·
        replace hm := bif_f hm hg184
        refine Dw_skip (fun _ _ _ ht => wanted_x rfl (ht 50 rfl) rfl) ?_
        refine Dw_skip (fun _ _ _ ht => wanted_x rfl (ht 50 rfl) rfl) ?_
        refine Dw_nil fun w222 g223 hl224 hi225 => ?_
        obtain ⟨-, hst226, -⟩ := hl224
        obtain ⟨hs228, p227⟩ := Step.nx hi225
        rintro _ rfl
        rintro _ rfl
        rintro _ rfl
        rintro _ rfl
        rintro v229 h230
        replace h230 : Vr.vd vB _ _ _ _ := h230
        obtain rfl := h230
        rintro _ rfl
        rintro _ rfl
        rintro _ rfl
        rintro _ rfl
        rintro _ rfl
        rintro v232 h233
        replace h233 : Vr.vd (vI .i64) _ _ _ _ := h233
        obtain ⟨rfl, r_y234⟩ := h233
        rintro _ rfl
        rintro v235 h236
        replace h236 : Vr.vd (vI .i64) _ _ _ _ := h236
        obtain ⟨rfl, r_y237⟩ := h236
        rintro _ rfl
        rintro _ rfl
        rintro _ rfl
        rintro v238 h239
        replace h239 : Vr.vd (vI .i64) _ _ _ _ := h239
        obtain ⟨rfl, r_y240⟩ := h239
        rintro _ rfl
        rintro v241 h242
        replace h242 : Vr.vd (vI .i64) _ _ _ _ := h242
        obtain ⟨rfl, r_y243⟩ := h242
        rintro _ rfl
        have p244 : Step (ks [(some b64, Obj.cells [(Value.slice a_y62_records append_2.1.records.length c_y62_records), (Value.int .i64 append_2.1.many), (Value.int .i64 append_2.1.synced)].toArray 52), (some b43, Obj.cells [(Value.slice a_y41_records append_1.1.records.length c_y41_records), (Value.int .i64 append_1.1.many), (Value.int .i64 append_1.1.synced)].toArray 52), (some b1, Obj.cells [(Value.slice a_l_records l.records.length c_l_records), (Value.int .i64 l.many), (Value.int .i64 l.synced)].toArray 52)] O) w69 (ks [(some b64, Obj.cells [(Value.slice a_y62_records append_2.1.records.length c_y62_records), (Value.int .i64 append_2.1.many), (Value.int .i64 append_2.1.synced)].toArray 52), (some b43, Obj.cells [(Value.slice a_y41_records append_1.1.records.length c_y41_records), (Value.int .i64 append_1.1.many), (Value.int .i64 append_1.1.synced)].toArray 52), (some b1, Obj.cells [(Value.slice a_l_records l.records.length c_l_records), (Value.int .i64 l.many), (Value.int .i64 l.synced)].toArray 52)] O) w222 := hst226.trans p227
        replace f_l_records := f_l_records.step p244; replace f_y41_records := f_y41_records.step p244; replace f_y62_records := f_y62_records.step p244; replace ch82 := ch82.trans p244; clear p244 hs71
        refine Rg_opx rfl (asB_ne rfl rfl) rfl ?_
        refine Rg_op rfl (op_pick_f (v := (Value.bool false)) rfl rfl ?_)
        refine Rg_op rfl (op_assign (v := (Value.bool false)) rfl ?_)
        refine Rg_nil ?_
        exact hK76 _ _ ⟨false, _, rfl, ⟨(by repeat (first | with_reducible exact Out.refl _ _ | refine Out.upd ?_ rfl | refine Out.updL ?_ rfl | refine Out.mix' ?_ rfl | exact Out.refl _ _)), rfl, rfl, trivial⟩, ch82, hs228, hm⟩
      ·
       replace hm := bif_f hm hg159
       refine Dw_skip (fun _ _ _ ht => wanted_x rfl (ht 45 rfl) rfl) ?_
       refine Dw_skip (fun _ _ _ ht => wanted_x rfl (ht 45 rfl) rfl) ?_
       refine Dw_skip (fun _ _ _ ht => wanted_x rfl (ht 45 rfl) rfl) ?_
       refine Dw_eq (Value.bool false) (fun ρ245 w246 g hle hi ht => ?_) ?_
       ·
        obtain ⟨-, hst, -⟩ := hle
        refine StepOp_plain (op_pick_f (v := (Value.bool false)) (ht 45 rfl) rfl ?_)
        exact Goes.same hi rfl
       refine Dw_eq (Value.bool false) (fun ρ248 w249 g hle hi ht => ?_) ?_
       ·
        obtain ⟨-, hst, -⟩ := hle
        refine StepOp_plain (op_move (v := (Value.bool false)) (ht 49 rfl) ?_)
        exact Goes.same hi rfl
       refine Dw_skip (fun _ _ _ ht => wanted_x rfl (ht 50 rfl) rfl) ?_
       refine Dw_skip (fun _ _ _ ht => wanted_x rfl (ht 50 rfl) rfl) ?_
       refine Dw_nil fun w255 g256 hl257 hi258 => ?_
       obtain ⟨-, hst259, -⟩ := hl257
       obtain ⟨hs261, p260⟩ := Step.nx hi258
       rintro _ rfl
       rintro _ rfl
       rintro _ rfl
       rintro _ rfl
       rintro _ rfl
       rintro _ rfl
       rintro _ rfl
       rintro _ rfl
       rintro _ rfl
       rintro _ rfl
       rintro v262 h263
       replace h263 : Vr.vd (vI .i64) _ _ _ _ := h263
       obtain ⟨rfl, r_y264⟩ := h263
       rintro _ rfl
       rintro v265 h266
       replace h266 : Vr.vd (vI .i64) _ _ _ _ := h266
       obtain ⟨rfl, r_y267⟩ := h266
       rintro _ rfl
       rintro _ rfl
       rintro _ rfl
       rintro v268 h269
       replace h269 : Vr.vd (vI .i64) _ _ _ _ := h269
       obtain ⟨rfl, r_y270⟩ := h269
       rintro _ rfl
       rintro v271 h272
       replace h272 : Vr.vd (vI .i64) _ _ _ _ := h272
       obtain ⟨rfl, r_y273⟩ := h272
       rintro _ rfl
       have p274 : Step (ks [(some b64, Obj.cells [(Value.slice a_y62_records append_2.1.records.length c_y62_records), (Value.int .i64 append_2.1.many), (Value.int .i64 append_2.1.synced)].toArray 52), (some b43, Obj.cells [(Value.slice a_y41_records append_1.1.records.length c_y41_records), (Value.int .i64 append_1.1.many), (Value.int .i64 append_1.1.synced)].toArray 52), (some b1, Obj.cells [(Value.slice a_l_records l.records.length c_l_records), (Value.int .i64 l.many), (Value.int .i64 l.synced)].toArray 52)] O) w69 (ks [(some b64, Obj.cells [(Value.slice a_y62_records append_2.1.records.length c_y62_records), (Value.int .i64 append_2.1.many), (Value.int .i64 append_2.1.synced)].toArray 52), (some b43, Obj.cells [(Value.slice a_y41_records append_1.1.records.length c_y41_records), (Value.int .i64 append_1.1.many), (Value.int .i64 append_1.1.synced)].toArray 52), (some b1, Obj.cells [(Value.slice a_l_records l.records.length c_l_records), (Value.int .i64 l.many), (Value.int .i64 l.synced)].toArray 52)] O) w255 := hst259.trans p260
       replace f_l_records := f_l_records.step p274; replace f_y41_records := f_y41_records.step p274; replace f_y62_records := f_y62_records.step p274; replace ch82 := ch82.trans p274; clear p274 hs71
       refine Rg_opx rfl (asB_ne rfl rfl) rfl ?_
       refine Rg_op rfl (op_pick_f (v := (Value.bool false)) rfl rfl ?_)
       refine Rg_op rfl (op_assign (v := (Value.bool false)) rfl ?_)
       refine Rg_nil ?_
       exact hK76 _ _ ⟨false, _, rfl, ⟨(by repeat (first | with_reducible exact Out.refl _ _ | refine Out.upd ?_ rfl | refine Out.updL ?_ rfl | refine Out.mix' ?_ rfl | exact Out.refl _ _)), rfl, rfl, trivial⟩, ch82, hs261, hm⟩
     ·
      replace hm := bif_f hm hg119
      refine Dw_skip (fun _ _ _ ht => wanted_x rfl (ht 38 rfl) rfl) ?_
      refine Dw_skip (fun _ _ _ ht => wanted_x rfl (ht 38 rfl) rfl) ?_
      refine Dw_skip (fun _ _ _ ht => wanted_x rfl (ht 38 rfl) rfl) ?_
      refine Dw_skip (fun _ _ _ ht => wanted_x rfl (ht 38 rfl) rfl) ?_
      refine Dw_skip (fun _ _ _ ht => wanted_x rfl (ht 38 rfl) rfl) ?_
      refine Dw_eq (Value.bool false) (fun ρ275 w276 g hle hi ht => ?_) ?_
      ·
       obtain ⟨-, hst, -⟩ := hle
       refine StepOp_plain (op_pick_f (v := (Value.bool false)) (ht 38 rfl) rfl ?_)
       exact Goes.same hi rfl
      refine Dw_eq (Value.bool false) (fun ρ278 w279 g hle hi ht => ?_) ?_
      ·
       obtain ⟨-, hst, -⟩ := hle
       refine StepOp_plain (op_move (v := (Value.bool false)) (ht 44 rfl) ?_)
       exact Goes.same hi rfl
      refine Dw_skip (fun _ _ _ ht => wanted_x rfl (ht 45 rfl) rfl) ?_
      refine Dw_skip (fun _ _ _ ht => wanted_x rfl (ht 45 rfl) rfl) ?_
      refine Dw_skip (fun _ _ _ ht => wanted_x rfl (ht 45 rfl) rfl) ?_
      refine Dw_eq (Value.bool false) (fun ρ281 w282 g hle hi ht => ?_) ?_
      ·
       obtain ⟨-, hst, -⟩ := hle
       refine StepOp_plain (op_pick_f (v := (Value.bool false)) (ht 45 rfl) rfl ?_)
       exact Goes.same hi rfl
      refine Dw_eq (Value.bool false) (fun ρ284 w285 g hle hi ht => ?_) ?_
      ·
       obtain ⟨-, hst, -⟩ := hle
       refine StepOp_plain (op_move (v := (Value.bool false)) (ht 49 rfl) ?_)
       exact Goes.same hi rfl
      refine Dw_skip (fun _ _ _ ht => wanted_x rfl (ht 50 rfl) rfl) ?_
      refine Dw_skip (fun _ _ _ ht => wanted_x rfl (ht 50 rfl) rfl) ?_
      refine Dw_nil fun w291 g292 hl293 hi294 => ?_
      obtain ⟨-, hst295, -⟩ := hl293
      obtain ⟨hs297, p296⟩ := Step.nx hi294
      rintro _ rfl
      rintro _ rfl
      rintro _ rfl
      rintro _ rfl
      rintro _ rfl
      rintro _ rfl
      rintro _ rfl
      rintro _ rfl
      rintro _ rfl
      rintro _ rfl
      rintro _ rfl
      rintro _ rfl
      rintro _ rfl
      rintro _ rfl
      rintro _ rfl
      rintro _ rfl
      rintro v298 h299
      replace h299 : Vr.vd (vI .i64) _ _ _ _ := h299
      obtain ⟨rfl, r_y300⟩ := h299
      rintro _ rfl
      rintro v301 h302
      replace h302 : Vr.vd (vI .i64) _ _ _ _ := h302
      obtain ⟨rfl, r_y303⟩ := h302
      rintro _ rfl
      have p304 : Step (ks [(some b64, Obj.cells [(Value.slice a_y62_records append_2.1.records.length c_y62_records), (Value.int .i64 append_2.1.many), (Value.int .i64 append_2.1.synced)].toArray 52), (some b43, Obj.cells [(Value.slice a_y41_records append_1.1.records.length c_y41_records), (Value.int .i64 append_1.1.many), (Value.int .i64 append_1.1.synced)].toArray 52), (some b1, Obj.cells [(Value.slice a_l_records l.records.length c_l_records), (Value.int .i64 l.many), (Value.int .i64 l.synced)].toArray 52)] O) w69 (ks [(some b64, Obj.cells [(Value.slice a_y62_records append_2.1.records.length c_y62_records), (Value.int .i64 append_2.1.many), (Value.int .i64 append_2.1.synced)].toArray 52), (some b43, Obj.cells [(Value.slice a_y41_records append_1.1.records.length c_y41_records), (Value.int .i64 append_1.1.many), (Value.int .i64 append_1.1.synced)].toArray 52), (some b1, Obj.cells [(Value.slice a_l_records l.records.length c_l_records), (Value.int .i64 l.many), (Value.int .i64 l.synced)].toArray 52)] O) w291 := hst295.trans p296
      replace f_l_records := f_l_records.step p304; replace f_y41_records := f_y41_records.step p304; replace f_y62_records := f_y62_records.step p304; replace ch82 := ch82.trans p304; clear p304 hs71
      refine Rg_opx rfl (asB_ne rfl rfl) rfl ?_
      refine Rg_op rfl (op_pick_f (v := (Value.bool false)) rfl rfl ?_)
      refine Rg_op rfl (op_assign (v := (Value.bool false)) rfl ?_)
      refine Rg_nil ?_
      exact hK76 _ _ ⟨false, _, rfl, ⟨(by repeat (first | with_reducible exact Out.refl _ _ | refine Out.upd ?_ rfl | refine Out.updL ?_ rfl | refine Out.mix' ?_ rfl | exact Out.refl _ _)), rfl, rfl, trivial⟩, ch82, hs297, hm⟩
  ·
   intro K21 hK21
   have ch305 := Step.refl (ks [(some b1, Obj.cells [(Value.slice a_l_records l.records.length c_l_records), (Value.int .i64 l.many), (Value.int .i64 l.synced)].toArray 52)] O) w8
   refine Wp_region ?_
   refine Rg_op rfl (op_build (vs := [(Value.slice none 0 0), (Value.slice none 0 0), (Value.int .i64 0), (Value.bool false)]) (parts := []) ty25 pl25 rfl ?_)
   refine Rg_op rfl (op_fieldAddr ty52 rfl ty22 (by decide) rfl (rfl : _ = (⟨_, 0, none⟩ : Addr)) ?_)
   refine Rg_op rfl (op_load (cs := [(Value.slice a_l_records l.records.length c_l_records), (Value.int .i64 l.many), (Value.int .i64 l.synced)]) (i := 0) ty22 hs11 rfl rfl rfl ?_)
   replace hm := bd hm; obtain ⟨few_1, hv306, hm⟩ := hm
   refine Rg_op rfl (op_call Try.call29 (c29_overflightlaw45_few (d := (⟨([] : List (List UInt8)), ([] : List XWrite), 0, false⟩ : XDisk)) (records := l.records) hs11.ltw SlR.nil_ SlR.nil_ (show InK .i64 0 from by decide) f_l_records hv306) rfl ?_)
   rintro v307 w308 ⟨hx309, h310⟩
   have hs311 := hs11.call hx309
   have p312 := Step.ext (O := ks [(some b1, Obj.cells [(Value.slice a_l_records l.records.length c_l_records), (Value.int .i64 l.many), (Value.int .i64 l.synced)].toArray 52)] O) hx309
   clear hx309
   replace f_l_records := f_l_records.step p312; replace f_b := f_b.step p312; replace ch305 := ch305.trans p312; clear p312 hs11
   obtain rfl := h310
   refine Rg_op rfl (op_not rfl ?_)
   refine Rg_op rfl (op_move (v := (Value.bool (!few_1))) rfl ?_)
   refine Rg_case (fun hg314 => ?_) (fun hg314 => ?_)
   ·
    replace hm := bif_t hm hg314
    iterate 3 refine Rg_opx rfl (asB_ne rfl rfl) rfl ?_
    refine Rg_op rfl (op_pick_t (v := (Value.bool true)) rfl rfl ?_)
    refine Rg_nil ?_
    exact hK21 _ _ ⟨true, _, rfl, ⟨(by repeat (first | with_reducible exact Out.refl _ _ | refine Out.upd ?_ rfl | refine Out.updL ?_ rfl | refine Out.mix' ?_ rfl | exact Out.refl _ _)), rfl, rfl, trivial⟩, ch305, hs311, hm⟩
   ·
    replace hm := bif_f hm hg314
    refine Rg_opg rfl rfl rfl (op_move (v := (Value.slice a_b b.length c_b)) rfl ?_)
    refine Rg_opg rfl rfl rfl (op_len Try.underlying41 rfl ?_)
    have rl315 := inK_len f_b
    refine Rg_opg rfl rfl rfl (op_gtr rfl rfl ?_)
    refine Rg_op rfl (op_pick_f (v := (Value.bool (decide (70000 < (b.length : Int))))) rfl rfl ?_)
    refine Rg_nil ?_
    exact hK21 _ _ ⟨(decide (70000 < (b.length : Int))), _, rfl, ⟨(by repeat (first | with_reducible exact Out.refl _ _ | refine Out.upd ?_ rfl | refine Out.updL ?_ rfl | refine Out.mix' ?_ rfl | exact Out.refl _ _)), rfl, rfl, trivial⟩, ch305, hs311, hm⟩

end Go.Fx



/- What the models of functions compute: loops over lists, checks, meetings. No program in sight. -/
set_option linter.unusedSimpArgs false
set_option linter.unusedVariables false
namespace Go.Fx
open Go Go.RowKit

section
variable {R α σ : Type}
@[simp] theorem jn_eq {κ : Type _} (k : κ) (f : κ → Option R) : jn k f = f k := rfl
theorem ck_eq {c : Prop} [Decidable c] {m : Option R} (h : c) : ck c m = m := if_pos h
@[simp] theorem ck_True {m : Option R} : ck True m = m := if_pos trivial
theorem wrapN {i : Nat} (h : i < 9223372036854775808) : IntKind.i64.wrap (i : Int) = (i : Int) := wrap_i64 (by omega) (by omega)
theorem wrapS {i : Nat} (h : i + 1 < 9223372036854775808) : IntKind.i64.wrap ((i : Int) + 1) = (i : Int) + 1 := wrap_i64 (by omega) (by omega)
/-- a loop that goes up an index over a list: L fuel index state -/
theorem up_list {L : Nat → Int → σ → Option R} (I : Nat → σ → Prop) (F : Nat → List α → σ → Option R) (l : List α) (hl : l.length < 9223372036854775807)
    (hE : ∀ n s, I l.length s → L (n + 1) (l.length : Nat) s = F l.length [] s)
    (hS : ∀ n (i : Nat) s x t, i < l.length → l[i]? = some x → IntKind.i64.wrap ((i : Int) + 1) = (i : Int) + 1 → I i s →
      (∀ s, I (i + 1) s → L n ((i : Int) + 1) s = F (i + 1) t s) → L (n + 1) (i : Int) s = F i (x :: t) s) :
    ∀ (fuel : Nat) s, l.length < fuel → I 0 s → L fuel 0 s = F 0 l s := by
  have main : ∀ (t : List α) (i fuel : Nat) s, l.drop i = t → i ≤ l.length → l.length - i < fuel → I i s → L fuel (i : Int) s = F i t s := by
    intro t
    induction t with
    | nil =>
      intro i fuel s hd hi hf hI
      have : i = l.length := by have := congrArg List.length hd; simp at this; omega
      subst this
      obtain ⟨n, rfl⟩ : ∃ n, fuel = n + 1 := ⟨fuel - 1, by omega⟩
      exact hE n s hI
    | cons x t ih =>
      intro i fuel s hd hi hf hI
      have hlt : i < l.length := by have := congrArg List.length hd; simp at this; omega
      obtain ⟨n, rfl⟩ : ∃ n, fuel = n + 1 := ⟨fuel - 1, by omega⟩
      have hx : l[i]? = some x := by rw [← List.head?_drop, hd]; rfl
      refine hS n i s x t hlt hx (wrapS (by omega)) hI fun s' hI' => (ih (i + 1) n s' ?_ (by omega) (by omega) hI')
      rw [← List.drop_drop, hd]; rfl
  intro fuel s hf hI
  exact main l 0 fuel s rfl (by omega) (by omega) hI

theorem getD_of {l : List α} {i : Nat} {x d : α} (h : l[i]? = some x) : l.getD i d = x := by simp [List.getD, h]

/-- a state first, then the index -/
theorem up_listB {B : (σ → Int → Option R) → σ → Int → Option R} (I : Nat → σ → Prop) (F : Nat → List α → σ → Option R) (l : List α) (hl : l.length < 9223372036854775807)
    (hE : ∀ sf s, I l.length s → B sf s (l.length : Nat) = F l.length [] s)
    (hS : ∀ sf (i : Nat) s x t, i < l.length → l[i]? = some x → IntKind.i64.wrap ((i : Int) + 1) = (i : Int) + 1 → I i s →
      (∀ s, I (i + 1) s → sf s ((i : Int) + 1) = F (i + 1) t s) → B sf s (i : Int) = F i (x :: t) s)
    {fuel : Nat} {s : σ} (hf : l.length < fuel) (hI : I 0 s) : loop2 B fuel s 0 = F 0 l s := by
  refine up_list (L := fun n i s => loop2 B n s i) I F l hl ?_ ?_ fuel s hf hI
  · intro n s h; show loop2 B (n + 1) _ _ = _; rw [loop2_succ]; exact hE _ _ h
  · intro n i s x t h1 h2 h3 h4 ih; show loop2 B (n + 1) _ _ = _; rw [loop2_succ]; exact hS _ i s x t h1 h2 h3 h4 ih

/-- the same, where the answer needs the index -/
theorem up_listI {B : (Int → Option R) → Int → Option R} (F : Nat → List α → Option R) (l : List α) (hl : l.length < 9223372036854775807)
    (hE : ∀ sf, B sf (l.length : Nat) = F l.length [])
    (hS : ∀ sf (i : Nat) x t, i < l.length → l[i]? = some x → IntKind.i64.wrap ((i : Int) + 1) = (i : Int) + 1 →
      sf ((i : Int) + 1) = F (i + 1) t → B sf (i : Int) = F i (x :: t))
    {fuel : Nat} (hf : l.length < fuel) : loop1 B fuel 0 = F 0 l := by
  refine up_list (L := fun n i (_ : Unit) => loop1 B n i) (fun _ _ => True) (fun i t _ => F i t) l hl ?_ ?_ fuel () hf trivial
  · intro n _ _; show loop1 B (n + 1) _ = _; rw [loop1_succ]; exact hE _
  · intro n i _ x t h1 h2 h3 _ ih; show loop1 B (n + 1) _ = _; rw [loop1_succ]; exact hS _ i x t h1 h2 h3 (ih () trivial)
end
end Go.Fx



/- Chapter 45: what Check, Room and Append compute. -/
set_option linter.unusedSimpArgs false
set_option linter.unusedVariables false
namespace Go.Fx
open Go Go.RowKit
theorem ipos {l n : Nat} (h : n < l) : ((n : Int) < (l : Int)) := by omega
theorem sane45 : m28_overflightlaw45_sane = some true := by kernel_rfl
/-- sectors of a record of so many bytes -/
def secI (n : Int) : Int := max 1 (IntKind.wrap .i64 ((IntKind.wrap .i64 ((IntKind.wrap .i64 (n + 112)) - 1)).tdiv 112))
def usedF : Int → List (List UInt8) → Int
  | s, [] => s
  | s, x :: t => usedF (IntKind.wrap .i64 (s + secI (x.length : Int))) t
theorem m54_eq (b : List UInt8) : m54_journal_sectors b = some (secI (b.length : Int)) := rfl
theorem m57_eq (n : Int) : m57_overflightref45_Sectors n = some (secI n) := rfl
theorem m55_eq (l : List (List UInt8)) (hl : l.length < 9223372036854775807) : m55_journal_used l = some (usedF 0 l) := by
  unfold m55_journal_used
  refine up_listB (B := m55_journal_used_B0 l) (σ := Int) (fun _ _ => True) (fun _ t s => some (usedF s t)) l hl ?_ ?_ (by omega) trivial
  · intro sf s _; unfold m55_journal_used_B0
    rw [decide_eq_false (Int.lt_irrefl _)]; rfl
  · intro sf i s x t h1 h2 h3 _ ih
    unfold m55_journal_used_B0
    have g1 : l.getD (i : Int).toNat default = x := getD_of h2
    rw [decide_eq_true (ipos h1), cond_true, ck_eq (by omega), g1, m54_eq, Option.bind_some, h3, ih _ trivial]; rfl
theorem m58_eq (l : List (List UInt8)) (hl : l.length < 9223372036854775807) : m58_overflightref45_Used l = some (usedF 0 l) := by
  unfold m58_overflightref45_Used
  refine up_listB (B := m58_overflightref45_Used_B0 l) (σ := Int) (fun _ _ => True) (fun _ t s => some (usedF s t)) l hl ?_ ?_ (by omega) trivial
  · intro sf s _; unfold m58_overflightref45_Used_B0
    rw [decide_eq_false (Int.lt_irrefl _)]; rfl
  · intro sf i s x t h1 h2 h3 _ ih
    unfold m58_overflightref45_Used_B0
    have g1 : l.getD (i : Int).toNat default = x := getD_of h2
    rw [decide_eq_true (ipos h1), cond_true, ck_eq (by omega), g1, m57_eq, Option.bind_some, h3, ih _ trivial]; rfl
/-- what Check looks for -/
def badJ (l : XJournal) : Bool := decide (l.many < 1) || (decide (4096 < l.many) || (decide (l.synced < 0) || (decide ((l.records.length : Int) < l.synced) || decide (l.many < usedF 0 l.records))))
theorem m32_eq (l : XJournal) (hl : l.records.length < 9223372036854775807) : m32_journal_Check l = some (bif badJ l then 1 else 0) := by
  unfold m32_journal_Check badJ
  simp only [jn_eq]
  rw [m55_eq _ hl, Option.bind_some]
  cases decide (l.many < 1) <;> cases decide (4096 < l.many) <;> cases decide (l.synced < 0) <;> cases decide ((l.records.length : Int) < l.synced) <;> cases decide (l.many < usedF 0 l.records) <;> rfl
theorem m33_eq (l : XJournal) (hl : l.records.length < 9223372036854775807) : m33_overflightref45_Check l = some (bif badJ l then 1 else 0) := by
  unfold m33_overflightref45_Check badJ
  simp only [jn_eq]
  rw [m58_eq _ hl, Option.bind_some]
  cases decide (l.many < 1) <;> cases decide (4096 < l.many) <;> cases decide (l.synced < 0) <;> cases decide ((l.records.length : Int) < l.synced) <;> cases decide (l.many < usedF 0 l.records) <;> rfl
def roomJ (l : XJournal) : Int := bif badJ l then 0 else IntKind.wrap .i64 (112 * (IntKind.wrap .i64 (l.many - usedF 0 l.records)))
theorem m34_eq (l : XJournal) (hl : l.records.length < 9223372036854775807) : m34_journal_Room l = some (roomJ l) := by
  unfold m34_journal_Room roomJ
  rw [m32_eq l hl, m55_eq _ hl]
  cases badJ l <;> rfl
theorem m35_eq (l : XJournal) (hl : l.records.length < 9223372036854775807) : m35_overflightref45_Room l = some (roomJ l) := by
  unfold m35_overflightref45_Room roomJ
  rw [m33_eq l hl, m58_eq _ hl]
  cases badJ l <;> rfl
def appJ (l : XJournal) (b : List UInt8) : XJournal × Int :=
  bif badJ l then (⟨[], 0, 0⟩, 1) else bif decide ((IntKind.wrap .i64 (l.many - usedF 0 l.records)) < secI (b.length : Int)) then (⟨[], 0, 0⟩, 2) else (⟨l.records ++ [b], l.many, l.synced⟩, 0)
theorem m56_eq (s : List (List UInt8)) : m56_slices_Clipbyte_byte_ s = some s := by
  unfold m56_slices_Clipbyte_byte_
  rw [ck_eq (by omega), List.drop_zero, Nat.sub_zero, List.take_length]
theorem m52_eq (s : List UInt8) (h : s.length ≤ 140737488351232) : m52_slices_Clonebyte_byte_ s = some s := by
  unfold m52_slices_Clonebyte_byte_
  rw [ck_eq (by simp; omega)]; rfl
theorem m30_eq (l : XJournal) (b : List UInt8) (hl : l.records.length * 24 ≤ 140737488351232) (hb : b.length ≤ 140737488351232) : m30_journal_Append l b = some (appJ l b) := by
  unfold m30_journal_Append appJ
  rw [m32_eq l (by omega), m54_eq, m55_eq _ (by omega), m56_eq, m52_eq b hb]
  cases badJ l
  · simp only [Option.bind_some, cond_false, ne_eq, not_true_eq_false, decide_false]
    cases decide ((IntKind.wrap .i64 (l.many - usedF 0 l.records)) < secI (b.length : Int))
    · rw [cond_false, cond_false, ck_eq (by simp; omega)]
    · rfl
  · rfl
theorem m31_eq (l : XJournal) (b : List UInt8) (hl : l.records.length * 24 ≤ 140737488351232) (hb : b.length ≤ 140737488351232) : m31_overflightref45_Append l b = some (appJ l b) := by
  unfold m31_overflightref45_Append appJ
  rw [m33_eq l (by omega), m57_eq, m58_eq _ (by omega)]
  cases badJ l
  · simp only [Option.bind_some, cond_false, ne_eq, not_true_eq_false, decide_false]
    cases decide ((IntKind.wrap .i64 (l.many - usedF 0 l.records)) < secI (b.length : Int))
    · rw [cond_false, cond_false, ck_eq (by simp; omega), ck_eq (by simp; omega), List.nil_append]
    · rfl
  · rfl
theorem m37_eq (a b : List (List UInt8)) (ha : a.length < 9223372036854775807) : m37_overflightref45_SameRecords a b = some (decide (a = b)) := by
  unfold m37_overflightref45_SameRecords
  by_cases hl : a.length = b.length
  · rw [decide_eq_false (show ¬ ((a.length : Int) ≠ b.length) by omega), cond_false]
    refine (up_listI (B := m37_overflightref45_SameRecords_B0 a b) (fun i t => some (decide (t = b.drop i))) a ha ?_ ?_ (by omega)).trans (by simp)
    · intro sf; unfold m37_overflightref45_SameRecords_B0
      rw [decide_eq_false (Int.lt_irrefl _), cond_false, hl, List.drop_length]; rfl
    · intro sf i x t h1 h2 h3 ih
      obtain ⟨_, rfl⟩ := List.getElem?_eq_some_iff.1 h2
      unfold m37_overflightref45_SameRecords_B0
      have g1 : a.getD (i : Int).toNat default = a[i] := by simp [h1]
      have hb' : i < b.length := by omega
      have g2 : b.getD (i : Int).toNat default = b[i] := by simp [hb']
      rw [decide_eq_true (ipos h1), cond_true, ck_eq (by omega), ck_eq (by omega), g1, g2, h3, ih, List.drop_eq_getElem_cons hb']
      by_cases e : a[i] = b[i]
      · rw [decide_eq_false (fun h => h e), cond_false, e]
        congr 1
        rw [Bool.eq_iff_iff, decide_eq_true_iff, decide_eq_true_iff]
        constructor
        · rintro rfl; rfl
        · intro h; exact (List.cons.inj h).2
      · rw [decide_eq_true e, cond_true, decide_eq_false]
        intro h; exact e (List.cons.inj h).1
  · rw [decide_eq_true (show (a.length : Int) ≠ b.length by omega), cond_true, decide_eq_false (fun e => hl (by rw [e]))]
theorem m36_refl (a : XJournal) (ha : a.records.length < 9223372036854775807) : m36_overflightref45_Same a a = some true := by
  unfold m36_overflightref45_Same
  rw [m37_eq _ _ ha]; simp
def sumF : Int → List (List UInt8) → Int
  | s, [] => s
  | s, x :: t => sumF (IntKind.wrap .i64 (s + IntKind.wrap .i64 (1 + (x.length : Int)))) t
def fewJ (d : XDisk) (records : List (List UInt8)) : Bool := decide ((d.sectors.length : Int) ≤ 40) && (decide ((d.pending.length : Int) ≤ 40) && decide (sumF 0 records ≤ 4000))
theorem m29_eq (d : XDisk) (l : List (List UInt8)) (hl : l.length < 9223372036854775807) : m29_overflightlaw45_few d l = some (fewJ d l) := by
  unfold m29_overflightlaw45_few fewJ
  refine up_listB (B := m29_overflightlaw45_few_B0 d l) (σ := Int) (fun _ _ => True) (fun _ t s => some (decide ((d.sectors.length : Int) ≤ 40) && (decide ((d.pending.length : Int) ≤ 40) && decide (sumF s t ≤ 4000)))) l hl ?_ ?_ (by omega) trivial
  · intro sf s _; unfold m29_overflightlaw45_few_B0
    rw [decide_eq_false (Int.lt_irrefl _), cond_false]
    cases decide ((d.sectors.length : Int) ≤ 40) <;> cases decide ((d.pending.length : Int) ≤ 40) <;> rfl
  · intro sf i s x t h1 h2 h3 _ ih
    unfold m29_overflightlaw45_few_B0
    have g1 : l.getD (i : Int).toNat default = x := getD_of h2
    rw [decide_eq_true (ipos h1), cond_true, ck_eq (by omega), g1, h3, ih _ trivial]; rfl
end Go.Fx



/- JournalAppendSpec. -/
set_option linter.unusedSimpArgs false
set_option linter.unusedVariables false
namespace Go.Fx
open Go Go.RowKit
theorem JournalAppendSpec_law (l : XJournal) (b : List UInt8) (hj : smXJournal l) (hb : SmL SmT b) : m8_overflightlaw45_JournalAppendSpec l b = some true := by
  have hl := hj.1.1
  have hbl := hb.1
  unfold m8_overflightlaw45_JournalAppendSpec
  rw [sane45, m29_eq _ _ (by omega)]
  simp only [Option.bind_some, Bool.not_true, cond_false, jn_eq]
  cases fewJ (⟨([] : List (List UInt8)), ([] : List XWrite), 0, false⟩ : XDisk) l.records
  · rfl
  rw [m30_eq l b hl hbl, m31_eq l b hl hbl, m32_eq l (by omega), m33_eq l (by omega), m34_eq l (by omega), m35_eq l (by omega)]
  have hr : (appJ l b).1.records.length < 9223372036854775807 := by
    unfold appJ
    cases badJ l
    · cases decide ((IntKind.wrap .i64 (l.many - usedF 0 l.records)) < secI (b.length : Int))
      · simp only [cond_false, List.length_append, List.length_cons, List.length_nil]; omega
      · simp
    · simp
  simp only [Option.bind_some, Bool.not_true, cond_false, decide_true, cond_true, m36_refl _ hr]
  cases decide (70000 < (b.length : Int)) <;> rfl
end Go.Fx



namespace Go.Proofs.Ytegomkljijgjjaa.lawJournalAppendSpec
open Go Go.Proofs Go.ChangeShapes Go.WideShapes Go.ChangeAt Go.RowKit Go.Fx
open Go.ChangeMaps (open_string shut_string)
set_option linter.unusedVariables false
set_option maxRecDepth 100000
theorem own : ownKnob Try.prog.godebug = none := by kernel_rfl
theorem laidOut : laidOutB Try.prog = true := by kernel_rfl
set_option maxRecDepth 100000 in
set_option maxHeartbeats 1000000 in
theorem lifted (os : Os) (started : os.Started) (H : Type) (enc : TypeId × Value → H) :
    ReturnsInHanded {} Try.checked os 8 .any (Rows.journalAppendSpecSpec.pre6 enc Try.prog Try.f8 Rows.journalAppendSpecRow.domain false) (Rows.journalAppendSpecSpec.post enc Try.prog Try.f8 false true false false) := by
  refine returnsInHanded_of_change_sized (C := Try.checked) own started (by kernel_rfl) Try.func8
    (ChangeSpec.witness6 (enc := enc) (C := Try.checked) false ⟨#[], #[.agg #[(.slice none 0 0), (.int .i64 0), (.int .i64 0)], (.slice none 0 0)], []⟩ 8 (by kernel_rfl) (by kernel_rfl) (by kernel_rfl) (by kernel_rfl)) ?_
  intro W base args ds gs before hval0 hW hcnd hsz _
  have hval : ∀ (j : Nat) t v, Try.f8.params[j]? = some t → args[j]? = some v → Value.okWide Try.prog W .any base t v := hval0
  have hW' := hW
  obtain ⟨p, q, hA0, hV, rfl, hfz, hnd⟩ := hW
  have hA : DataW.TrodAll enc Try.prog W 0 (fun _ => true) true Try.f8.params.toList args.toList ds p := hA0
  rw [Try.params8] at hA hval
  obtain ⟨v0, vs0, d0, ds0, p0, q0, hargs, rfl, rfl, h0, r0⟩ := trodAll_cons hA
  obtain ⟨v1, vs1, d1, ds1, p1, q1, rfl, rfl, rfl, h1, r1⟩ := trodAll_cons r0
  obtain ⟨rfl, rfl, rfl⟩ := trodAll_nil r1
  obtain rfl : args = #[v0, v1] := by cases args; simp_all
  obtain ⟨rfl, rfl⟩ := trodVars_none hV
  have k0 := h0
  have lt0 : ∀ x ∈ p0, x.block < W.heap.size := by obtain ⟨m, hm⟩ := k0; exact DataW.trod_lt m _ _ _ hm
  obtain ⟨fu0, hf0⟩ := h0
  obtain ⟨l, rr0, sm0⟩ := rd52.2 _ _ _ hf0
  replace sm0 := sm0 (fun n hn => by have := List.all_eq_true.1 hsz n (DataW.weights_mem_each (j := 0) (t := 52) rfl rfl n hn); simpa using this)
  obtain ⟨⟨cs0⟩, rfl, _⟩ := okWide_struct Try.underlying52 (hval 0 52 v0 rfl rfl)
  replace rr0 : rXJournal.rd W [] cs0 l := rr0
  obtain ⟨_, _, rfl, ⟨a_l_records, c_l_records, rfl, f_l_records⟩, ⟨_, _, rfl, ⟨rfl, r_l_many⟩, ⟨rfl, r_l_synced⟩⟩⟩ := rr0
  have k1 := h1
  have lt1 : ∀ x ∈ p1, x.block < W.heap.size := by obtain ⟨m, hm⟩ := k1; exact DataW.trod_lt m _ _ _ hm
  obtain ⟨fu1, hf1⟩ := h1
  obtain ⟨b, rr1, sm1⟩ := rd41.2 _ _ _ hf1
  replace sm1 := sm1 (fun n hn => by have := List.all_eq_true.1 hsz n (DataW.weights_mem_each (j := 1) (t := 41) rfl rfl n hn); simpa using this)
  obtain ⟨b1, l1, c1, rfl⟩ := okWide_slice Try.underlying41 (hval 1 41 v1 rfl rfl)
  replace rr1 : (rSl rU8).rd W [] [.slice b1 l1 c1] b := rr1
  obtain ⟨a_b, c_b, e1, f_b⟩ := un_sl rr1
  simp only [Value.slice.injEq] at e1
  obtain ⟨rfl, rfl, rfl⟩ := e1
  have hm : m8_overflightlaw45_JournalAppendSpec l b = some true := JournalAppendSpec_law _ _ sm0 sm1
  have hc := Fn.calls (c8_overflightlaw45_JournalAppendSpec (l := l) (b := b) (w := W) (O := []) (by simp) f_l_records r_l_many r_l_synced f_b hm)
  clear hA0 hval0
  refine Calls.mono hc ?_
  rintro e W' ⟨v, rfl, bel, hv⟩
  replace bel := bel.below; obtain rfl : v = .bool true := hv
  exact ⟨_, rfl, _, _, _, [], _, [], hW', trodAll_mk1 (shut_bool Try.underlying4 _), (trodAll_cons_mk (Below.trod laidOut (by kernel_rfl) (of_decide_eq_true (by kernel_rfl)) k0 bel lt0) (trodAll_cons_mk (Below.trod laidOut (by kernel_rfl) (of_decide_eq_true (by kernel_rfl)) k1 bel lt1) trodAll_mk0)), rfl, bel.frame _, fun h => by cases h⟩
theorem over : Rows.journalAppendSpecRow.holds Try.pinned (OpenSpec.ofChange Rows.journalAppendSpecSpec) :=
  OpenClaim.holds_of_wide 8 Try.f8 rfl rfl rfl rfl rfl rfl rfl ⟨rfl, rfl, rfl, rfl, rfl⟩ rfl rfl rfl rfl rfl (by kernel_rfl) Try.func8 (by kernel_rfl)
    (of_decide_eq_true (by kernel_rfl)) (by unfold Func.isWrapper; first | (rw [if_pos (by decide +kernel)]; kernel_rfl) | (rw [if_neg (by decide +kernel)]; exact ⟨rfl, rfl⟩))
    (fun os started H enc _ => lifted os started H enc)
theorem proved : Rows.JournalAppendSpecSaid := over
end Go.Proofs.Ytegomkljijgjjaa.lawJournalAppendSpec


