/- JournalRoom where what comes in is of bulk at most 1048576: a record is taken exactly if a sector is left and it has no more bytes than Room says. -/
import Derived.Test.YtegomkljijgjjaaRoom4
import Derived.Test.YtegomkljijgjjaaRows
import Derived.WalkKit
import Derived.ShutString
import Derived.JoinedCond
set_option linter.unusedVariables false
set_option linter.unusedSimpArgs false
set_option maxRecDepth 100000
set_option maxHeartbeats 0
namespace Go.Fx
open Go Go.RowKit Go.Proofs
def m28_overflightlaw45_sane : Option Bool :=
 (m15_disk_New 1).bind fun new_1 =>
 (m38_journal_Open new_1.1).bind fun open_1 =>
 ck ((0 : Int) ≤ (113 : Int) ∧ (113 : Int) ≤ (113 : Int) ∧ (1 : Int) * 113 ≤ 281474976710656 ∧ (113 : Int) ≤ 281474976710656) <|
 (m30_journal_Append open_1.1 (List.replicate 113 (0 : UInt8))).bind fun append_1 =>
 (m30_journal_Append open_1.1 [97, 98]).bind fun append_2 =>
 (m39_journal_Sync append_2.1 new_1.1).bind fun sync_1 =>
 (m38_journal_Open sync_1.2.1).bind fun open_2 =>
 (m39_journal_Sync append_2.1 sync_1.2.1).bind fun sync_2 =>
 jn (fun (v_1 : Bool) =>
  some v_1)
 (fun k281 =>
  bif (decide (new_1.2 = 0)) then
   bif (decide (open_1.2 = 0)) then
    bif (decide ((open_1.1.records.length : Int) = 0)) then
     (m34_journal_Room open_1.1).bind fun room_1 =>
     bif (decide (room_1 = 112)) then
      bif (decide (append_1.2 = 2)) then
       bif (decide (append_2.2 = 0)) then
        bif (decide (sync_1.2.2 = 0)) then
         bif (decide (sync_1.1.synced = 1)) then
          bif (decide (open_2.2 = 0)) then
           bif (decide ((open_2.1.records.length : Int) = 1)) then
            ck ((0 : Int) ≤ 0 ∧ 0 < (open_2.1.records.length : Int)) <|
            bif (decide ((open_2.1.records.getD 0 default) = [97, 98])) then
             bif (decide (sync_2.2.2 = 450)) then
              (m32_journal_Check (⟨([] : List (List UInt8)), 0, 0⟩ : XJournal)).bind fun check_1 =>
              k281 (decide (check_1 = 1))
             else
              k281 false
            else
             k281 false
           else
            k281 false
          else
           k281 false
         else
          k281 false
        else
         k281 false
       else
        k281 false
      else
       k281 false
     else
      k281 false
    else
     k281 false
   else
    k281 false
  else
   k281 false)

theorem c28_overflightlaw45_sane {w : World} {O : List Nat} (hO : ∀ k ∈ O, k < w.heap.size) {x : Bool} (hm : m28_overflightlaw45_sane = some x) :
  Ok Try.prog 28 [] w O vB x := by
 unfold m28_overflightlaw45_sane at hm
 refine Fn_of_Wp (n := 119) (xs := [.tmp 0]) Try.func28 rfl Try.ntmps28 Try.results28 rfl ?_
 have hs := St.start hO
 refine Wp_seq ?_
 refine Wp_region ?_
 refine Rg_op rfl (op_assign (v := (Value.bool false)) rfl ?_)
 refine Rg_nil ?_
 refine Wp_seq ?_
 refine Wp_region ?_
 replace hm := bd hm; obtain ⟨new_1, hv1, hm⟩ := hm
 refine Rg_op rfl (op_call Try.call15 (c15_disk_New (sectors := 1) hs.ltw (show InK .i64 1 from by decide) hv1) rfl ?_)
 rintro v2 w3 ⟨hx4, h5⟩
 have hs6 := hs.call hx4
 have p7 := Step.ext (O := ks [] O) hx4
 clear hx4
 clear p7
 obtain ⟨v8, v9, rfl, h10, h11⟩ := h5
 obtain ⟨_, rfl, ⟨_, _, rfl, ⟨a_y12_sectors, c_y12_sectors, rfl, f_y12_sectors⟩, ⟨_, _, rfl, ⟨a_y12_pending, c_y12_pending, rfl, f_y12_pending⟩, ⟨_, _, rfl, ⟨rfl, r_y12_left⟩, rfl⟩⟩⟩⟩ := h10
 obtain ⟨rfl, r_y13⟩ := h11
 refine Rg_op rfl (op_move (v := (Value.tuple [(Value.agg [(Value.slice a_y12_sectors new_1.1.sectors.length c_y12_sectors), (Value.slice a_y12_pending new_1.1.pending.length c_y12_pending), (Value.int .i64 new_1.1.left), (Value.bool new_1.1.stopped)].toArray), (Value.int .i64 new_1.2)].toArray)) rfl ?_)
 refine Rg_op rfl (op_extract (v := (Value.agg [(Value.slice a_y12_sectors new_1.1.sectors.length c_y12_sectors), (Value.slice a_y12_pending new_1.1.pending.length c_y12_pending), (Value.int .i64 new_1.1.left), (Value.bool new_1.1.stopped)].toArray)) rfl rfl ?_)
 refine Rg_op rfl (op_extract (v := (Value.int .i64 new_1.2)) rfl rfl ?_)
 refine Rg_op rfl (op_alloc ty25 hs6 ?_)
 intro b14 w15 _ p16 hs17
 replace f_y12_sectors := f_y12_sectors.step p16; replace f_y12_pending := f_y12_pending.step p16; clear p16 hs6
 refine Rg_op_ (op_store (cs := [(Value.slice none 0 0), (Value.slice none 0 0), (Value.int .i64 0), (Value.bool false)]) (vs := [(Value.slice a_y12_sectors new_1.1.sectors.length c_y12_sectors), (Value.slice a_y12_pending new_1.1.pending.length c_y12_pending), (Value.int .i64 new_1.1.left), (Value.bool new_1.1.stopped)]) (cs' := [(Value.slice a_y12_sectors new_1.1.sectors.length c_y12_sectors), (Value.slice a_y12_pending new_1.1.pending.length c_y12_pending), (Value.int .i64 new_1.1.left), (Value.bool new_1.1.stopped)]) (bs' := [(some b14, Obj.cells [(Value.slice a_y12_sectors new_1.1.sectors.length c_y12_sectors), (Value.slice a_y12_pending new_1.1.pending.length c_y12_pending), (Value.int .i64 new_1.1.left), (Value.bool new_1.1.stopped)].toArray 25)]) (i := 0) ty25 hs17 rfl rfl rfl rfl rfl (le_lit rfl) rfl rfl rfl ?_)
 intro w19 p20 hs21
 replace f_y12_sectors := f_y12_sectors.step p20; replace f_y12_pending := f_y12_pending.step p20; clear p20 hs17
 refine Rg_op rfl (op_assign (v := (Value.int .i64 new_1.2)) rfl ?_)
 refine Rg_nil ?_
 refine Wp_seq ?_
 refine Wp_region ?_
 refine Rg_op rfl (op_loadA (cs := [(Value.slice a_y12_sectors new_1.1.sectors.length c_y12_sectors), (Value.slice a_y12_pending new_1.1.pending.length c_y12_pending), (Value.int .i64 new_1.1.left), (Value.bool new_1.1.stopped)]) (vs := [(Value.slice a_y12_sectors new_1.1.sectors.length c_y12_sectors), (Value.slice a_y12_pending new_1.1.pending.length c_y12_pending), (Value.int .i64 new_1.1.left), (Value.bool new_1.1.stopped)]) (i := 0) ty25 hs21 rfl rfl rfl rfl ?_)
 replace hm := bd hm; obtain ⟨open_1, hv22, hm⟩ := hm
 refine Rg_op rfl (op_call Try.call38 (c38_journal_Open (d := new_1.1) hs21.ltw f_y12_sectors f_y12_pending r_y12_left hv22) rfl ?_)
 rintro v23 w24 ⟨hx25, h26⟩
 have hs27 := hs21.call hx25
 have p28 := Step.ext (O := ks [(some b14, Obj.cells [(Value.slice a_y12_sectors new_1.1.sectors.length c_y12_sectors), (Value.slice a_y12_pending new_1.1.pending.length c_y12_pending), (Value.int .i64 new_1.1.left), (Value.bool new_1.1.stopped)].toArray 25)] O) hx25
 clear hx25
 replace f_y12_sectors := f_y12_sectors.step p28; replace f_y12_pending := f_y12_pending.step p28; clear p28 hs21
 obtain ⟨v29, v30, rfl, h31, h32⟩ := h26
 obtain ⟨_, rfl, ⟨_, _, rfl, ⟨a_y33_records, c_y33_records, rfl, f_y33_records⟩, ⟨_, _, rfl, ⟨rfl, r_y33_many⟩, ⟨rfl, r_y33_synced⟩⟩⟩⟩ := h31
 obtain ⟨rfl, r_y34⟩ := h32
 refine Rg_op rfl (op_move (v := (Value.tuple [(Value.agg [(Value.slice a_y33_records open_1.1.records.length c_y33_records), (Value.int .i64 open_1.1.many), (Value.int .i64 open_1.1.synced)].toArray), (Value.int .i64 open_1.2)].toArray)) rfl ?_)
 refine Rg_op rfl (op_extract (v := (Value.agg [(Value.slice a_y33_records open_1.1.records.length c_y33_records), (Value.int .i64 open_1.1.many), (Value.int .i64 open_1.1.synced)].toArray)) rfl rfl ?_)
 refine Rg_op rfl (op_extract (v := (Value.int .i64 open_1.2)) rfl rfl ?_)
 refine Rg_op rfl (op_alloc ty52 hs27 ?_)
 intro b35 w36 _ p37 hs38
 replace f_y12_sectors := f_y12_sectors.step p37; replace f_y12_pending := f_y12_pending.step p37; replace f_y33_records := f_y33_records.step p37; clear p37 hs27
 refine Rg_op_ (op_store (cs := [(Value.slice none 0 0), (Value.int .i64 0), (Value.int .i64 0)]) (vs := [(Value.slice a_y33_records open_1.1.records.length c_y33_records), (Value.int .i64 open_1.1.many), (Value.int .i64 open_1.1.synced)]) (cs' := [(Value.slice a_y33_records open_1.1.records.length c_y33_records), (Value.int .i64 open_1.1.many), (Value.int .i64 open_1.1.synced)]) (bs' := [(some b35, Obj.cells [(Value.slice a_y33_records open_1.1.records.length c_y33_records), (Value.int .i64 open_1.1.many), (Value.int .i64 open_1.1.synced)].toArray 52), (some b14, Obj.cells [(Value.slice a_y12_sectors new_1.1.sectors.length c_y12_sectors), (Value.slice a_y12_pending new_1.1.pending.length c_y12_pending), (Value.int .i64 new_1.1.left), (Value.bool new_1.1.stopped)].toArray 25)]) (i := 0) ty52 hs38 rfl rfl rfl rfl rfl (le_lit rfl) rfl rfl rfl ?_)
 intro w40 p41 hs42
 replace f_y12_sectors := f_y12_sectors.step p41; replace f_y12_pending := f_y12_pending.step p41; replace f_y33_records := f_y33_records.step p41; clear p41 hs38
 refine Rg_op rfl (op_assign (v := (Value.int .i64 open_1.2)) rfl ?_)
 refine Rg_nil ?_
 refine Wp_seq ?_
 refine Wp_drawR (g0 := []) (m := 7) (fl := [5]) (TS_inv hs42) rfl (.inl rfl) rfl (by decide +kernel) ?_  -- 3
 refine Dw_eq (Value.agg [(Value.slice a_y33_records open_1.1.records.length c_y33_records), (Value.int .i64 open_1.1.many), (Value.int .i64 open_1.1.synced)].toArray) (fun ρ43 w44 g hle hi ht => ?_) ?_
 ·
  obtain ⟨-, hst, -⟩ := hle
  have hsn := (Step.nx hi).1
  refine StepOp_plain (op_loadA (cs := [(Value.slice a_y33_records open_1.1.records.length c_y33_records), (Value.int .i64 open_1.1.many), (Value.int .i64 open_1.1.synced)]) (vs := [(Value.slice a_y33_records open_1.1.records.length c_y33_records), (Value.int .i64 open_1.1.many), (Value.int .i64 open_1.1.synced)]) (i := 0) ty52 hsn (ht 3 rfl) rfl rfl rfl ?_)
  exact Goes.same hi rfl
 replace hm := ck_some hm; obtain ⟨hc49, hm⟩ := hm
 refine Dw_op (VD O [(some b35, Obj.cells [(Value.slice a_y33_records open_1.1.records.length c_y33_records), (Value.int .i64 open_1.1.many), (Value.int .i64 open_1.1.synced)].toArray 52), (some b14, Obj.cells [(Value.slice a_y12_sectors new_1.1.sectors.length c_y12_sectors), (Value.slice a_y12_pending new_1.1.pending.length c_y12_pending), (Value.int .i64 new_1.1.left), (Value.bool new_1.1.stopped)].toArray 25)] (vC (rSl rU8)) (List.replicate 113 (0 : UInt8))) (VD.stab _ _) (fun ρ46 w47 g hle hi ht => ?_) ?_
 ·
  obtain ⟨-, hst, -⟩ := hle
  replace f_y12_sectors := f_y12_sectors.step hst; replace f_y12_pending := f_y12_pending.step hst; replace f_y33_records := f_y33_records.step hst
  refine StepOp_plain (op_makeSliceI (q := rU8) (v := (Value.int .u8 0)) (x0 := (0 : UInt8)) ty41 ty5 hi rfl rfl hc49 rfl (fun _ _ => (mk_u8 (show InK .u8 0 from by decide))) ?_)
  intro b50 w51 hx55 p52 hs53 f54
  replace f_y12_sectors := f_y12_sectors.step p52; replace f_y12_pending := f_y12_pending.step p52; replace f_y33_records := f_y33_records.step p52
  obtain ⟨hs57, p58, f59⟩ := Gs.publish (i := 0) hs53 rfl f54
  exact Goes.pub hi hs57 (Step.trans p52 p58) hx55 (show Vr.vd (vC (rSl rU8)) _ _ _ _ from mkC (mk_sl f59))
 replace hm := bd hm; obtain ⟨append_1, hv66, hm⟩ := hm
 refine Dw_op (VD O [(some b35, Obj.cells [(Value.slice a_y33_records open_1.1.records.length c_y33_records), (Value.int .i64 open_1.1.many), (Value.int .i64 open_1.1.synced)].toArray 52), (some b14, Obj.cells [(Value.slice a_y12_sectors new_1.1.sectors.length c_y12_sectors), (Value.slice a_y12_pending new_1.1.pending.length c_y12_pending), (Value.int .i64 new_1.1.left), (Value.bool new_1.1.stopped)].toArray 25)] (vT2 (vA rXJournal) (vI .i64)) append_1) (VD.stab _ _) (fun ρ60 w61 g hle hi ht => ?_) ?_
 ·
  obtain ⟨-, hst, -⟩ := hle
  replace f_y33_records := f_y33_records.step hst
  have h63 : Vr.vd (vC (rSl rU8)) _ _ _ _ := ht 28 rfl
  obtain ⟨a_y65, c_y65, q64, f_y65⟩ := un_sl h63
  refine StepOp_plain (op_call Try.call30 (c30_journal_Append (O := ks (ents g ++ [(some b35, Obj.cells [(Value.slice a_y33_records open_1.1.records.length c_y33_records), (Value.int .i64 open_1.1.many), (Value.int .i64 open_1.1.synced)].toArray 52), (some b14, Obj.cells [(Value.slice a_y12_sectors new_1.1.sectors.length c_y12_sectors), (Value.slice a_y12_pending new_1.1.pending.length c_y12_pending), (Value.int .i64 new_1.1.left), (Value.bool new_1.1.stopped)].toArray 25)]) O) (l := open_1.1) (b := (List.replicate 113 (0 : UInt8))) hi.ltw f_y33_records r_y33_many r_y33_synced f_y65 hv66) (by simp only [List.map, Array.toList, (show ev _ (.tmp 27) = _ from (ht 27 rfl)), (show ev _ (.tmp 28) = _ from q64)] <;> rfl) ?_)
  rintro v67 w68 ⟨hx69, h70⟩
  exact Goes.call hi hx69 h70
 refine Dw_op (VD O [(some b35, Obj.cells [(Value.slice a_y33_records open_1.1.records.length c_y33_records), (Value.int .i64 open_1.1.many), (Value.int .i64 open_1.1.synced)].toArray 52), (some b14, Obj.cells [(Value.slice a_y12_sectors new_1.1.sectors.length c_y12_sectors), (Value.slice a_y12_pending new_1.1.pending.length c_y12_pending), (Value.int .i64 new_1.1.left), (Value.bool new_1.1.stopped)].toArray 25)] (vT2 (vA rXJournal) (vI .i64)) append_1) (VD.stab _ _) (fun ρ72 w73 g hle hi ht => ?_) ?_
 ·
  obtain ⟨-, hst, -⟩ := hle
  have h : Vr.vd (vT2 (vA rXJournal) (vI .i64)) _ _ _ _ := ht 29 rfl
  refine StepOp_plain (op_move rfl (Goes.same hi h))
 refine Dw_op (VD O [(some b35, Obj.cells [(Value.slice a_y33_records open_1.1.records.length c_y33_records), (Value.int .i64 open_1.1.many), (Value.int .i64 open_1.1.synced)].toArray 52), (some b14, Obj.cells [(Value.slice a_y12_sectors new_1.1.sectors.length c_y12_sectors), (Value.slice a_y12_pending new_1.1.pending.length c_y12_pending), (Value.int .i64 new_1.1.left), (Value.bool new_1.1.stopped)].toArray 25)] (vA rXJournal) append_1.1) (VD.stab _ _) (fun ρ83 w84 g hle hi ht => ?_) ?_
 ·
  obtain ⟨-, hst, -⟩ := hle
  have h86 : Vr.vd (vT2 (vA rXJournal) (vI .i64)) _ _ _ _ := ht 26 rfl
  obtain ⟨v88, v89, q87, h90, h91⟩ := h86
  obtain ⟨_, rfl, ⟨_, _, rfl, ⟨a_y92_records, c_y92_records, rfl, f_y92_records⟩, ⟨_, _, rfl, ⟨rfl, r_y92_many⟩, ⟨rfl, r_y92_synced⟩⟩⟩⟩ := h90
  obtain ⟨rfl, r_y93⟩ := h91
  refine StepOp_plain (op_extract (v := (Value.agg [(Value.slice a_y92_records append_1.1.records.length c_y92_records), (Value.int .i64 append_1.1.many), (Value.int .i64 append_1.1.synced)].toArray)) q87 rfl ?_)
  exact Goes.same hi (show Vr.vd (vA rXJournal) _ _ _ _ from (mkA (mkVia (mk_pair (mk_sl f_y92_records) (mk_pair (mk_int r_y92_many) (mk_int r_y92_synced))))))
 refine Dw_op (VD O [(some b35, Obj.cells [(Value.slice a_y33_records open_1.1.records.length c_y33_records), (Value.int .i64 open_1.1.many), (Value.int .i64 open_1.1.synced)].toArray 52), (some b14, Obj.cells [(Value.slice a_y12_sectors new_1.1.sectors.length c_y12_sectors), (Value.slice a_y12_pending new_1.1.pending.length c_y12_pending), (Value.int .i64 new_1.1.left), (Value.bool new_1.1.stopped)].toArray 25)] (vI .i64) append_1.2) (VD.stab _ _) (fun ρ94 w95 g hle hi ht => ?_) ?_
 ·
  obtain ⟨-, hst, -⟩ := hle
  have h97 : Vr.vd (vT2 (vA rXJournal) (vI .i64)) _ _ _ _ := ht 26 rfl
  obtain ⟨v99, v100, q98, h101, h102⟩ := h97
  obtain ⟨_, rfl, ⟨_, _, rfl, ⟨a_y103_records, c_y103_records, rfl, f_y103_records⟩, ⟨_, _, rfl, ⟨rfl, r_y103_many⟩, ⟨rfl, r_y103_synced⟩⟩⟩⟩ := h101
  obtain ⟨rfl, r_y104⟩ := h102
  refine StepOp_plain (op_extract (v := (Value.int .i64 append_1.2)) q98 rfl ?_)
  exact Goes.same hi (show Vr.vd (vI .i64) _ _ _ _ from ⟨rfl, r_y104⟩)
 refine Dw_op (VN 5 (Obj.cells [(Value.slice none 0 0), (Value.int .i64 0), (Value.int .i64 0)].toArray 52)) (VN.stab _ _) (fun ρ105 w106 g hle hi ht => ?_) ?_
 ·
  obtain ⟨-, hst, -⟩ := hle
  refine StepOp_plain (op_alloc ty52 hi ?_)
  intro b108 w109 hx112 p110 hs111; exact Goes.new hi p110 hs111 hx112
 refine Dw_nil fun w117 g118 hl119 hi120 => ?_
 obtain ⟨-, hst121, -⟩ := hl119
 rintro _ ⟨b124, rfl, h125⟩
 rintro v127 h128
 replace h128 : Vr.vd (vI .i64) _ _ _ _ := h128
 obtain ⟨rfl, r_y129⟩ := h128
 rintro v130 h131
 replace h131 : Vr.vd (vA rXJournal) _ _ _ _ := h131
 obtain ⟨_, rfl, ⟨_, _, rfl, ⟨a_y132_records, c_y132_records, rfl, f_y132_records⟩, ⟨_, _, rfl, ⟨rfl, r_y132_many⟩, ⟨rfl, r_y132_synced⟩⟩⟩⟩ := h131
 rintro v133 h134
 replace h134 : Vr.vd (vT2 (vA rXJournal) (vI .i64)) _ _ _ _ := h134
 obtain ⟨v135, v136, rfl, h137, h138⟩ := h134
 obtain ⟨_, rfl, ⟨_, _, rfl, ⟨a_y139_records, c_y139_records, rfl, f_y139_records⟩, ⟨_, _, rfl, ⟨rfl, r_y139_many⟩, ⟨rfl, r_y139_synced⟩⟩⟩⟩ := h137
 obtain ⟨rfl, r_y140⟩ := h138
 rintro v141 h142
 replace h142 : Vr.vd (vT2 (vA rXJournal) (vI .i64)) _ _ _ _ := h142
 obtain ⟨v143, v144, rfl, h145, h146⟩ := h142
 obtain ⟨_, rfl, ⟨_, _, rfl, ⟨a_y147_records, c_y147_records, rfl, f_y147_records⟩, ⟨_, _, rfl, ⟨rfl, r_y147_many⟩, ⟨rfl, r_y147_synced⟩⟩⟩⟩ := h145
 obtain ⟨rfl, r_y148⟩ := h146
 rintro v149 h150
 replace h150 : Vr.vd (vC (rSl rU8)) _ _ _ _ := h150
 obtain ⟨a_y151, c_y151, rfl, f_y151⟩ := un_sl h150
 rintro _ rfl
 obtain ⟨hs123, p122⟩ := Step.nx1 hi120 h125
 have p152 : Step (ks [(some b35, Obj.cells [(Value.slice a_y33_records open_1.1.records.length c_y33_records), (Value.int .i64 open_1.1.many), (Value.int .i64 open_1.1.synced)].toArray 52), (some b14, Obj.cells [(Value.slice a_y12_sectors new_1.1.sectors.length c_y12_sectors), (Value.slice a_y12_pending new_1.1.pending.length c_y12_pending), (Value.int .i64 new_1.1.left), (Value.bool new_1.1.stopped)].toArray 25)] O) w40 (ks [(some b124, Obj.cells [(Value.slice none 0 0), (Value.int .i64 0), (Value.int .i64 0)].toArray 52), (some b35, Obj.cells [(Value.slice a_y33_records open_1.1.records.length c_y33_records), (Value.int .i64 open_1.1.many), (Value.int .i64 open_1.1.synced)].toArray 52), (some b14, Obj.cells [(Value.slice a_y12_sectors new_1.1.sectors.length c_y12_sectors), (Value.slice a_y12_pending new_1.1.pending.length c_y12_pending), (Value.int .i64 new_1.1.left), (Value.bool new_1.1.stopped)].toArray 25)] O) w117 := hst121.trans p122
 replace f_y132_records := f_y132_records.step p122; replace f_y139_records := f_y139_records.step p122; replace f_y147_records := f_y147_records.step p122; replace f_y151 := f_y151.step p122; replace f_y12_sectors := f_y12_sectors.step p152; replace f_y12_pending := f_y12_pending.step p152; replace f_y33_records := f_y33_records.step p152; clear p152 hs42
 refine Rg_op_ (op_store (cs := [(Value.slice none 0 0), (Value.int .i64 0), (Value.int .i64 0)]) (vs := [(Value.slice a_y132_records append_1.1.records.length c_y132_records), (Value.int .i64 append_1.1.many), (Value.int .i64 append_1.1.synced)]) (cs' := [(Value.slice a_y132_records append_1.1.records.length c_y132_records), (Value.int .i64 append_1.1.many), (Value.int .i64 append_1.1.synced)]) (bs' := [(some b124, Obj.cells [(Value.slice a_y132_records append_1.1.records.length c_y132_records), (Value.int .i64 append_1.1.many), (Value.int .i64 append_1.1.synced)].toArray 52), (some b35, Obj.cells [(Value.slice a_y33_records open_1.1.records.length c_y33_records), (Value.int .i64 open_1.1.many), (Value.int .i64 open_1.1.synced)].toArray 52), (some b14, Obj.cells [(Value.slice a_y12_sectors new_1.1.sectors.length c_y12_sectors), (Value.slice a_y12_pending new_1.1.pending.length c_y12_pending), (Value.int .i64 new_1.1.left), (Value.bool new_1.1.stopped)].toArray 25)]) (i := 0) ty52 hs123 rfl rfl rfl rfl rfl (le_lit rfl) rfl rfl rfl ?_)
 intro w153 p154 hs155
 replace f_y12_sectors := f_y12_sectors.step p154; replace f_y12_pending := f_y12_pending.step p154; replace f_y33_records := f_y33_records.step p154; replace f_y132_records := f_y132_records.step p154; replace f_y139_records := f_y139_records.step p154; replace f_y147_records := f_y147_records.step p154; replace f_y151 := f_y151.step p154; clear p154 hs123
 refine Rg_op rfl (op_assign (v := (Value.int .i64 append_1.2)) rfl ?_)
 refine Rg_nil ?_
 refine Wp_seq ?_
 obtain ⟨hs156, p157⟩ := hs155.sub (bs' := [(some b35, Obj.cells [(Value.slice a_y33_records open_1.1.records.length c_y33_records), (Value.int .i64 open_1.1.many), (Value.int .i64 open_1.1.synced)].toArray 52), (some b14, Obj.cells [(Value.slice a_y12_sectors new_1.1.sectors.length c_y12_sectors), (Value.slice a_y12_pending new_1.1.pending.length c_y12_pending), (Value.int .i64 new_1.1.left), (Value.bool new_1.1.stopped)].toArray 25)]) (.cons _ (.cons_cons _ (.cons_cons _ List.Sublist.slnil)))
 clear f_y132_records f_y139_records f_y147_records f_y151
 replace f_y12_sectors := f_y12_sectors.step p157; replace f_y12_pending := f_y12_pending.step p157; replace f_y33_records := f_y33_records.step p157; clear p157 hs155
 refine Wp_region ?_
 refine Rg_op rfl (op_loadA (cs := [(Value.slice a_y33_records open_1.1.records.length c_y33_records), (Value.int .i64 open_1.1.many), (Value.int .i64 open_1.1.synced)]) (vs := [(Value.slice a_y33_records open_1.1.records.length c_y33_records), (Value.int .i64 open_1.1.many), (Value.int .i64 open_1.1.synced)]) (i := 0) ty52 hs156 rfl rfl rfl rfl ?_)
 refine Rg_op rfl (op_buildSlice (cs := [(Value.int .u8 97), (Value.int .u8 98)]) (parts := [(0, .const (.int .u8 97)), (1, .const (.int .u8 98))]) ty41 ty5 hs156 (by decide) rfl ?_)
 intro b158 w159 hx162 p160 hs161
 replace f_y12_sectors := f_y12_sectors.step p160; replace f_y12_pending := f_y12_pending.step p160; replace f_y33_records := f_y33_records.step p160; clear p160 hs156
 refine Rg_op rfl (op_convB (i := 0) (m := 2) (cs := [(Value.int .u8 97), (Value.int .u8 98)]) Try.underlying41 Try.underlying5 hs161 rfl rfl rfl ?_)
 intro w164 p165 hs166
 replace f_y12_sectors := f_y12_sectors.step p165; replace f_y12_pending := f_y12_pending.step p165; replace f_y33_records := f_y33_records.step p165; clear p165 hs161
 obtain ⟨hs168, p169, f167⟩ := St.publish (i := 0) (o := 0) (c := 2) (xs := [97, 98]) hs166 rfl (show Els rU8 _ _ [(Value.int .u8 97), (Value.int .u8 98)] [97, 98] from ⟨_, _, rfl, (mk_u8 (show InK .u8 97 from by decide)), ⟨_, _, rfl, (mk_u8 (show InK .u8 98 from by decide)), Els.nil⟩⟩) (le_lit rfl) (le_lit rfl) (le_lit rfl)
 replace f_y12_sectors := f_y12_sectors.step p169; replace f_y12_pending := f_y12_pending.step p169; replace f_y33_records := f_y33_records.step p169; clear p169 hs166
 replace hm := bd hm; obtain ⟨append_2, hv170, hm⟩ := hm
 refine Rg_op rfl (op_call Try.call30 (c30_journal_Append (l := open_1.1) (b := [97, 98]) hs168.ltw f_y33_records r_y33_many r_y33_synced f167 hv170) rfl ?_)
 rintro v171 w172 ⟨hx173, h174⟩
 have hs175 := hs168.call hx173
 have p176 := Step.ext (O := ks [(some b35, Obj.cells [(Value.slice a_y33_records open_1.1.records.length c_y33_records), (Value.int .i64 open_1.1.many), (Value.int .i64 open_1.1.synced)].toArray 52), (some b14, Obj.cells [(Value.slice a_y12_sectors new_1.1.sectors.length c_y12_sectors), (Value.slice a_y12_pending new_1.1.pending.length c_y12_pending), (Value.int .i64 new_1.1.left), (Value.bool new_1.1.stopped)].toArray 25)] O) hx173
 clear hx173
 replace f_y12_sectors := f_y12_sectors.step p176; replace f_y12_pending := f_y12_pending.step p176; replace f_y33_records := f_y33_records.step p176; replace f167 := f167.step p176; clear p176 hs168
 obtain ⟨v177, v178, rfl, h179, h180⟩ := h174
 obtain ⟨_, rfl, ⟨_, _, rfl, ⟨a_y181_records, c_y181_records, rfl, f_y181_records⟩, ⟨_, _, rfl, ⟨rfl, r_y181_many⟩, ⟨rfl, r_y181_synced⟩⟩⟩⟩ := h179
 obtain ⟨rfl, r_y182⟩ := h180
 refine Rg_op rfl (op_move (v := (Value.tuple [(Value.agg [(Value.slice a_y181_records append_2.1.records.length c_y181_records), (Value.int .i64 append_2.1.many), (Value.int .i64 append_2.1.synced)].toArray), (Value.int .i64 append_2.2)].toArray)) rfl ?_)
 refine Rg_op rfl (op_extract (v := (Value.agg [(Value.slice a_y181_records append_2.1.records.length c_y181_records), (Value.int .i64 append_2.1.many), (Value.int .i64 append_2.1.synced)].toArray)) rfl rfl ?_)
 refine Rg_op rfl (op_extract (v := (Value.int .i64 append_2.2)) rfl rfl ?_)
 refine Rg_op rfl (op_alloc ty52 hs175 ?_)
 intro b183 w184 _ p185 hs186
 replace f_y12_sectors := f_y12_sectors.step p185; replace f_y12_pending := f_y12_pending.step p185; replace f_y33_records := f_y33_records.step p185; replace f167 := f167.step p185; replace f_y181_records := f_y181_records.step p185; clear p185 hs175
 refine Rg_op_ (op_store (cs := [(Value.slice none 0 0), (Value.int .i64 0), (Value.int .i64 0)]) (vs := [(Value.slice a_y181_records append_2.1.records.length c_y181_records), (Value.int .i64 append_2.1.many), (Value.int .i64 append_2.1.synced)]) (cs' := [(Value.slice a_y181_records append_2.1.records.length c_y181_records), (Value.int .i64 append_2.1.many), (Value.int .i64 append_2.1.synced)]) (bs' := [(some b183, Obj.cells [(Value.slice a_y181_records append_2.1.records.length c_y181_records), (Value.int .i64 append_2.1.many), (Value.int .i64 append_2.1.synced)].toArray 52), (some b35, Obj.cells [(Value.slice a_y33_records open_1.1.records.length c_y33_records), (Value.int .i64 open_1.1.many), (Value.int .i64 open_1.1.synced)].toArray 52), (some b14, Obj.cells [(Value.slice a_y12_sectors new_1.1.sectors.length c_y12_sectors), (Value.slice a_y12_pending new_1.1.pending.length c_y12_pending), (Value.int .i64 new_1.1.left), (Value.bool new_1.1.stopped)].toArray 25)]) (i := 0) ty52 hs186 rfl rfl rfl rfl rfl (le_lit rfl) rfl rfl rfl ?_)
 intro w188 p189 hs190
 replace f_y12_sectors := f_y12_sectors.step p189; replace f_y12_pending := f_y12_pending.step p189; replace f_y33_records := f_y33_records.step p189; replace f167 := f167.step p189; replace f_y181_records := f_y181_records.step p189; clear p189 hs186
 refine Rg_op rfl (op_assign (v := (Value.int .i64 append_2.2)) rfl ?_)
 refine Rg_nil ?_
 refine Wp_seq ?_
 clear f167
 refine Wp_reset [] [(1, (Value.pointer (some ⟨b14, 0, none⟩))), (2, (Value.int .i64 new_1.2)), (3, (Value.pointer (some ⟨b35, 0, none⟩))), (4, (Value.int .i64 open_1.2)), (6, (Value.int .i64 append_1.2)), (7, (Value.pointer (some ⟨b183, 0, none⟩))), (8, (Value.int .i64 append_2.2))] rfl ⟨rfl, rfl, rfl, rfl, rfl, rfl, rfl, trivial⟩ fun ξ191 => ?_
 refine Wp_region ?_
 refine Rg_op rfl (op_loadA (cs := [(Value.slice a_y181_records append_2.1.records.length c_y181_records), (Value.int .i64 append_2.1.many), (Value.int .i64 append_2.1.synced)]) (vs := [(Value.slice a_y181_records append_2.1.records.length c_y181_records), (Value.int .i64 append_2.1.many), (Value.int .i64 append_2.1.synced)]) (i := 0) ty52 hs190 rfl rfl rfl rfl ?_)
 refine Rg_op rfl (op_loadA (cs := [(Value.slice a_y12_sectors new_1.1.sectors.length c_y12_sectors), (Value.slice a_y12_pending new_1.1.pending.length c_y12_pending), (Value.int .i64 new_1.1.left), (Value.bool new_1.1.stopped)]) (vs := [(Value.slice a_y12_sectors new_1.1.sectors.length c_y12_sectors), (Value.slice a_y12_pending new_1.1.pending.length c_y12_pending), (Value.int .i64 new_1.1.left), (Value.bool new_1.1.stopped)]) (i := 2) ty25 hs190 rfl rfl rfl rfl ?_)
 replace hm := bd hm; obtain ⟨sync_1, hv192, hm⟩ := hm
 refine Rg_op rfl (op_call Try.call39 (c39_journal_Sync (l := append_2.1) (d := new_1.1) hs190.ltw f_y181_records r_y181_many r_y181_synced f_y12_sectors f_y12_pending r_y12_left hv192) rfl ?_)
 rintro v193 w194 ⟨hx195, h196⟩
 have hs197 := hs190.call hx195
 have p198 := Step.ext (O := ks [(some b183, Obj.cells [(Value.slice a_y181_records append_2.1.records.length c_y181_records), (Value.int .i64 append_2.1.many), (Value.int .i64 append_2.1.synced)].toArray 52), (some b35, Obj.cells [(Value.slice a_y33_records open_1.1.records.length c_y33_records), (Value.int .i64 open_1.1.many), (Value.int .i64 open_1.1.synced)].toArray 52), (some b14, Obj.cells [(Value.slice a_y12_sectors new_1.1.sectors.length c_y12_sectors), (Value.slice a_y12_pending new_1.1.pending.length c_y12_pending), (Value.int .i64 new_1.1.left), (Value.bool new_1.1.stopped)].toArray 25)] O) hx195
 clear hx195
 replace f_y12_sectors := f_y12_sectors.step p198; replace f_y12_pending := f_y12_pending.step p198; replace f_y33_records := f_y33_records.step p198; replace f_y181_records := f_y181_records.step p198; clear p198 hs190
 obtain ⟨v199, v200, v201, rfl, h202, h203, h204⟩ := h196
 obtain ⟨_, rfl, ⟨_, _, rfl, ⟨a_y205_records, c_y205_records, rfl, f_y205_records⟩, ⟨_, _, rfl, ⟨rfl, r_y205_many⟩, ⟨rfl, r_y205_synced⟩⟩⟩⟩ := h202
 obtain ⟨_, rfl, ⟨_, _, rfl, ⟨a_y206_sectors, c_y206_sectors, rfl, f_y206_sectors⟩, ⟨_, _, rfl, ⟨a_y206_pending, c_y206_pending, rfl, f_y206_pending⟩, ⟨_, _, rfl, ⟨rfl, r_y206_left⟩, rfl⟩⟩⟩⟩ := h203
 obtain ⟨rfl, r_y207⟩ := h204
 refine Rg_op rfl (op_move (v := (Value.tuple [(Value.agg [(Value.slice a_y205_records sync_1.1.records.length c_y205_records), (Value.int .i64 sync_1.1.many), (Value.int .i64 sync_1.1.synced)].toArray), (Value.agg [(Value.slice a_y206_sectors sync_1.2.1.sectors.length c_y206_sectors), (Value.slice a_y206_pending sync_1.2.1.pending.length c_y206_pending), (Value.int .i64 sync_1.2.1.left), (Value.bool sync_1.2.1.stopped)].toArray), (Value.int .i64 sync_1.2.2)].toArray)) rfl ?_)
 refine Rg_op rfl (op_extract (v := (Value.agg [(Value.slice a_y205_records sync_1.1.records.length c_y205_records), (Value.int .i64 sync_1.1.many), (Value.int .i64 sync_1.1.synced)].toArray)) rfl rfl ?_)
 refine Rg_op rfl (op_extract (v := (Value.agg [(Value.slice a_y206_sectors sync_1.2.1.sectors.length c_y206_sectors), (Value.slice a_y206_pending sync_1.2.1.pending.length c_y206_pending), (Value.int .i64 sync_1.2.1.left), (Value.bool sync_1.2.1.stopped)].toArray)) rfl rfl ?_)
 refine Rg_op rfl (op_extract (v := (Value.int .i64 sync_1.2.2)) rfl rfl ?_)
 refine Rg_op rfl (op_alloc ty52 hs197 ?_)
 intro b208 w209 _ p210 hs211
 replace f_y12_sectors := f_y12_sectors.step p210; replace f_y12_pending := f_y12_pending.step p210; replace f_y33_records := f_y33_records.step p210; replace f_y181_records := f_y181_records.step p210; replace f_y205_records := f_y205_records.step p210; replace f_y206_sectors := f_y206_sectors.step p210; replace f_y206_pending := f_y206_pending.step p210; clear p210 hs197
 refine Rg_op rfl (op_alloc ty25 hs211 ?_)
 intro b213 w214 _ p215 hs216
 replace f_y12_sectors := f_y12_sectors.step p215; replace f_y12_pending := f_y12_pending.step p215; replace f_y33_records := f_y33_records.step p215; replace f_y181_records := f_y181_records.step p215; replace f_y205_records := f_y205_records.step p215; replace f_y206_sectors := f_y206_sectors.step p215; replace f_y206_pending := f_y206_pending.step p215; clear p215 hs211
 refine Rg_op_ (op_store (cs := [(Value.slice none 0 0), (Value.int .i64 0), (Value.int .i64 0)]) (vs := [(Value.slice a_y205_records sync_1.1.records.length c_y205_records), (Value.int .i64 sync_1.1.many), (Value.int .i64 sync_1.1.synced)]) (cs' := [(Value.slice a_y205_records sync_1.1.records.length c_y205_records), (Value.int .i64 sync_1.1.many), (Value.int .i64 sync_1.1.synced)]) (bs' := [(some b213, Obj.cells [(Value.slice none 0 0), (Value.slice none 0 0), (Value.int .i64 0), (Value.bool false)].toArray 25), (some b208, Obj.cells [(Value.slice a_y205_records sync_1.1.records.length c_y205_records), (Value.int .i64 sync_1.1.many), (Value.int .i64 sync_1.1.synced)].toArray 52), (some b183, Obj.cells [(Value.slice a_y181_records append_2.1.records.length c_y181_records), (Value.int .i64 append_2.1.many), (Value.int .i64 append_2.1.synced)].toArray 52), (some b35, Obj.cells [(Value.slice a_y33_records open_1.1.records.length c_y33_records), (Value.int .i64 open_1.1.many), (Value.int .i64 open_1.1.synced)].toArray 52), (some b14, Obj.cells [(Value.slice a_y12_sectors new_1.1.sectors.length c_y12_sectors), (Value.slice a_y12_pending new_1.1.pending.length c_y12_pending), (Value.int .i64 new_1.1.left), (Value.bool new_1.1.stopped)].toArray 25)]) (i := 1) ty52 hs216 rfl rfl rfl rfl rfl (le_lit rfl) rfl rfl rfl ?_)
 intro w218 p219 hs220
 replace f_y12_sectors := f_y12_sectors.step p219; replace f_y12_pending := f_y12_pending.step p219; replace f_y33_records := f_y33_records.step p219; replace f_y181_records := f_y181_records.step p219; replace f_y205_records := f_y205_records.step p219; replace f_y206_sectors := f_y206_sectors.step p219; replace f_y206_pending := f_y206_pending.step p219; clear p219 hs216
 refine Rg_op_ (op_store (cs := [(Value.slice none 0 0), (Value.slice none 0 0), (Value.int .i64 0), (Value.bool false)]) (vs := [(Value.slice a_y206_sectors sync_1.2.1.sectors.length c_y206_sectors), (Value.slice a_y206_pending sync_1.2.1.pending.length c_y206_pending), (Value.int .i64 sync_1.2.1.left), (Value.bool sync_1.2.1.stopped)]) (cs' := [(Value.slice a_y206_sectors sync_1.2.1.sectors.length c_y206_sectors), (Value.slice a_y206_pending sync_1.2.1.pending.length c_y206_pending), (Value.int .i64 sync_1.2.1.left), (Value.bool sync_1.2.1.stopped)]) (bs' := [(some b213, Obj.cells [(Value.slice a_y206_sectors sync_1.2.1.sectors.length c_y206_sectors), (Value.slice a_y206_pending sync_1.2.1.pending.length c_y206_pending), (Value.int .i64 sync_1.2.1.left), (Value.bool sync_1.2.1.stopped)].toArray 25), (some b208, Obj.cells [(Value.slice a_y205_records sync_1.1.records.length c_y205_records), (Value.int .i64 sync_1.1.many), (Value.int .i64 sync_1.1.synced)].toArray 52), (some b183, Obj.cells [(Value.slice a_y181_records append_2.1.records.length c_y181_records), (Value.int .i64 append_2.1.many), (Value.int .i64 append_2.1.synced)].toArray 52), (some b35, Obj.cells [(Value.slice a_y33_records open_1.1.records.length c_y33_records), (Value.int .i64 open_1.1.many), (Value.int .i64 open_1.1.synced)].toArray 52), (some b14, Obj.cells [(Value.slice a_y12_sectors new_1.1.sectors.length c_y12_sectors), (Value.slice a_y12_pending new_1.1.pending.length c_y12_pending), (Value.int .i64 new_1.1.left), (Value.bool new_1.1.stopped)].toArray 25)]) (i := 0) ty25 hs220 rfl rfl rfl rfl rfl (le_lit rfl) rfl rfl rfl ?_)
 intro w221 p222 hs223
 replace f_y12_sectors := f_y12_sectors.step p222; replace f_y12_pending := f_y12_pending.step p222; replace f_y33_records := f_y33_records.step p222; replace f_y181_records := f_y181_records.step p222; replace f_y205_records := f_y205_records.step p222; replace f_y206_sectors := f_y206_sectors.step p222; replace f_y206_pending := f_y206_pending.step p222; clear p222 hs220
 refine Rg_op rfl (op_assign (v := (Value.int .i64 sync_1.2.2)) rfl ?_)
 refine Rg_nil ?_
 refine Wp_seq ?_
 obtain ⟨hs224, p225⟩ := hs223.sub (bs' := [(some b213, Obj.cells [(Value.slice a_y206_sectors sync_1.2.1.sectors.length c_y206_sectors), (Value.slice a_y206_pending sync_1.2.1.pending.length c_y206_pending), (Value.int .i64 sync_1.2.1.left), (Value.bool sync_1.2.1.stopped)].toArray 25), (some b208, Obj.cells [(Value.slice a_y205_records sync_1.1.records.length c_y205_records), (Value.int .i64 sync_1.1.many), (Value.int .i64 sync_1.1.synced)].toArray 52), (some b183, Obj.cells [(Value.slice a_y181_records append_2.1.records.length c_y181_records), (Value.int .i64 append_2.1.many), (Value.int .i64 append_2.1.synced)].toArray 52), (some b35, Obj.cells [(Value.slice a_y33_records open_1.1.records.length c_y33_records), (Value.int .i64 open_1.1.many), (Value.int .i64 open_1.1.synced)].toArray 52)]) (.cons_cons _ (.cons_cons _ (.cons_cons _ (.cons_cons _ (.cons _ List.Sublist.slnil)))))
 clear f_y12_sectors f_y12_pending
 replace f_y33_records := f_y33_records.step p225; replace f_y181_records := f_y181_records.step p225; replace f_y205_records := f_y205_records.step p225; replace f_y206_sectors := f_y206_sectors.step p225; replace f_y206_pending := f_y206_pending.step p225; clear p225 hs223
 refine Wp_region ?_
 refine Rg_op rfl (op_loadA (cs := [(Value.slice a_y206_sectors sync_1.2.1.sectors.length c_y206_sectors), (Value.slice a_y206_pending sync_1.2.1.pending.length c_y206_pending), (Value.int .i64 sync_1.2.1.left), (Value.bool sync_1.2.1.stopped)]) (vs := [(Value.slice a_y206_sectors sync_1.2.1.sectors.length c_y206_sectors), (Value.slice a_y206_pending sync_1.2.1.pending.length c_y206_pending), (Value.int .i64 sync_1.2.1.left), (Value.bool sync_1.2.1.stopped)]) (i := 0) ty25 hs224 rfl rfl rfl rfl ?_)
 replace hm := bd hm; obtain ⟨open_2, hv226, hm⟩ := hm
 refine Rg_op rfl (op_call Try.call38 (c38_journal_Open (d := sync_1.2.1) hs224.ltw f_y206_sectors f_y206_pending r_y206_left hv226) rfl ?_)
 rintro v227 w228 ⟨hx229, h230⟩
 have hs231 := hs224.call hx229
 have p232 := Step.ext (O := ks [(some b213, Obj.cells [(Value.slice a_y206_sectors sync_1.2.1.sectors.length c_y206_sectors), (Value.slice a_y206_pending sync_1.2.1.pending.length c_y206_pending), (Value.int .i64 sync_1.2.1.left), (Value.bool sync_1.2.1.stopped)].toArray 25), (some b208, Obj.cells [(Value.slice a_y205_records sync_1.1.records.length c_y205_records), (Value.int .i64 sync_1.1.many), (Value.int .i64 sync_1.1.synced)].toArray 52), (some b183, Obj.cells [(Value.slice a_y181_records append_2.1.records.length c_y181_records), (Value.int .i64 append_2.1.many), (Value.int .i64 append_2.1.synced)].toArray 52), (some b35, Obj.cells [(Value.slice a_y33_records open_1.1.records.length c_y33_records), (Value.int .i64 open_1.1.many), (Value.int .i64 open_1.1.synced)].toArray 52)] O) hx229
 clear hx229
 replace f_y33_records := f_y33_records.step p232; replace f_y181_records := f_y181_records.step p232; replace f_y205_records := f_y205_records.step p232; replace f_y206_sectors := f_y206_sectors.step p232; replace f_y206_pending := f_y206_pending.step p232; clear p232 hs224
 obtain ⟨v233, v234, rfl, h235, h236⟩ := h230
 obtain ⟨_, rfl, ⟨_, _, rfl, ⟨a_y237_records, c_y237_records, rfl, f_y237_records⟩, ⟨_, _, rfl, ⟨rfl, r_y237_many⟩, ⟨rfl, r_y237_synced⟩⟩⟩⟩ := h235
 obtain ⟨rfl, r_y238⟩ := h236
 refine Rg_op rfl (op_move (v := (Value.tuple [(Value.agg [(Value.slice a_y237_records open_2.1.records.length c_y237_records), (Value.int .i64 open_2.1.many), (Value.int .i64 open_2.1.synced)].toArray), (Value.int .i64 open_2.2)].toArray)) rfl ?_)
 refine Rg_op rfl (op_extract (v := (Value.agg [(Value.slice a_y237_records open_2.1.records.length c_y237_records), (Value.int .i64 open_2.1.many), (Value.int .i64 open_2.1.synced)].toArray)) rfl rfl ?_)
 refine Rg_op rfl (op_extract (v := (Value.int .i64 open_2.2)) rfl rfl ?_)
 refine Rg_op rfl (op_alloc ty52 hs231 ?_)
 intro b239 w240 _ p241 hs242
 replace f_y33_records := f_y33_records.step p241; replace f_y181_records := f_y181_records.step p241; replace f_y205_records := f_y205_records.step p241; replace f_y206_sectors := f_y206_sectors.step p241; replace f_y206_pending := f_y206_pending.step p241; replace f_y237_records := f_y237_records.step p241; clear p241 hs231
 refine Rg_op_ (op_store (cs := [(Value.slice none 0 0), (Value.int .i64 0), (Value.int .i64 0)]) (vs := [(Value.slice a_y237_records open_2.1.records.length c_y237_records), (Value.int .i64 open_2.1.many), (Value.int .i64 open_2.1.synced)]) (cs' := [(Value.slice a_y237_records open_2.1.records.length c_y237_records), (Value.int .i64 open_2.1.many), (Value.int .i64 open_2.1.synced)]) (bs' := [(some b239, Obj.cells [(Value.slice a_y237_records open_2.1.records.length c_y237_records), (Value.int .i64 open_2.1.many), (Value.int .i64 open_2.1.synced)].toArray 52), (some b213, Obj.cells [(Value.slice a_y206_sectors sync_1.2.1.sectors.length c_y206_sectors), (Value.slice a_y206_pending sync_1.2.1.pending.length c_y206_pending), (Value.int .i64 sync_1.2.1.left), (Value.bool sync_1.2.1.stopped)].toArray 25), (some b208, Obj.cells [(Value.slice a_y205_records sync_1.1.records.length c_y205_records), (Value.int .i64 sync_1.1.many), (Value.int .i64 sync_1.1.synced)].toArray 52), (some b183, Obj.cells [(Value.slice a_y181_records append_2.1.records.length c_y181_records), (Value.int .i64 append_2.1.many), (Value.int .i64 append_2.1.synced)].toArray 52), (some b35, Obj.cells [(Value.slice a_y33_records open_1.1.records.length c_y33_records), (Value.int .i64 open_1.1.many), (Value.int .i64 open_1.1.synced)].toArray 52)]) (i := 0) ty52 hs242 rfl rfl rfl rfl rfl (le_lit rfl) rfl rfl rfl ?_)
 intro w244 p245 hs246
 replace f_y33_records := f_y33_records.step p245; replace f_y181_records := f_y181_records.step p245; replace f_y205_records := f_y205_records.step p245; replace f_y206_sectors := f_y206_sectors.step p245; replace f_y206_pending := f_y206_pending.step p245; replace f_y237_records := f_y237_records.step p245; clear p245 hs242
 refine Rg_op rfl (op_assign (v := (Value.int .i64 open_2.2)) rfl ?_)
 refine Rg_nil ?_
 refine Wp_seq ?_
 refine Wp_region ?_
 refine Rg_op rfl (op_loadA (cs := [(Value.slice a_y181_records append_2.1.records.length c_y181_records), (Value.int .i64 append_2.1.many), (Value.int .i64 append_2.1.synced)]) (vs := [(Value.slice a_y181_records append_2.1.records.length c_y181_records), (Value.int .i64 append_2.1.many), (Value.int .i64 append_2.1.synced)]) (i := 3) ty52 hs246 rfl rfl rfl rfl ?_)
 refine Rg_op rfl (op_loadA (cs := [(Value.slice a_y206_sectors sync_1.2.1.sectors.length c_y206_sectors), (Value.slice a_y206_pending sync_1.2.1.pending.length c_y206_pending), (Value.int .i64 sync_1.2.1.left), (Value.bool sync_1.2.1.stopped)]) (vs := [(Value.slice a_y206_sectors sync_1.2.1.sectors.length c_y206_sectors), (Value.slice a_y206_pending sync_1.2.1.pending.length c_y206_pending), (Value.int .i64 sync_1.2.1.left), (Value.bool sync_1.2.1.stopped)]) (i := 1) ty25 hs246 rfl rfl rfl rfl ?_)
 replace hm := bd hm; obtain ⟨sync_2, hv247, hm⟩ := hm
 refine Rg_op rfl (op_call Try.call39 (c39_journal_Sync (l := append_2.1) (d := sync_1.2.1) hs246.ltw f_y181_records r_y181_many r_y181_synced f_y206_sectors f_y206_pending r_y206_left hv247) rfl ?_)
 rintro v248 w249 ⟨hx250, h251⟩
 have hs252 := hs246.call hx250
 have p253 := Step.ext (O := ks [(some b239, Obj.cells [(Value.slice a_y237_records open_2.1.records.length c_y237_records), (Value.int .i64 open_2.1.many), (Value.int .i64 open_2.1.synced)].toArray 52), (some b213, Obj.cells [(Value.slice a_y206_sectors sync_1.2.1.sectors.length c_y206_sectors), (Value.slice a_y206_pending sync_1.2.1.pending.length c_y206_pending), (Value.int .i64 sync_1.2.1.left), (Value.bool sync_1.2.1.stopped)].toArray 25), (some b208, Obj.cells [(Value.slice a_y205_records sync_1.1.records.length c_y205_records), (Value.int .i64 sync_1.1.many), (Value.int .i64 sync_1.1.synced)].toArray 52), (some b183, Obj.cells [(Value.slice a_y181_records append_2.1.records.length c_y181_records), (Value.int .i64 append_2.1.many), (Value.int .i64 append_2.1.synced)].toArray 52), (some b35, Obj.cells [(Value.slice a_y33_records open_1.1.records.length c_y33_records), (Value.int .i64 open_1.1.many), (Value.int .i64 open_1.1.synced)].toArray 52)] O) hx250
 clear hx250
 replace f_y33_records := f_y33_records.step p253; replace f_y181_records := f_y181_records.step p253; replace f_y205_records := f_y205_records.step p253; replace f_y206_sectors := f_y206_sectors.step p253; replace f_y206_pending := f_y206_pending.step p253; replace f_y237_records := f_y237_records.step p253; clear p253 hs246
 obtain ⟨v254, v255, v256, rfl, h257, h258, h259⟩ := h251
 obtain ⟨_, rfl, ⟨_, _, rfl, ⟨a_y260_records, c_y260_records, rfl, f_y260_records⟩, ⟨_, _, rfl, ⟨rfl, r_y260_many⟩, ⟨rfl, r_y260_synced⟩⟩⟩⟩ := h257
 obtain ⟨_, rfl, ⟨_, _, rfl, ⟨a_y261_sectors, c_y261_sectors, rfl, f_y261_sectors⟩, ⟨_, _, rfl, ⟨a_y261_pending, c_y261_pending, rfl, f_y261_pending⟩, ⟨_, _, rfl, ⟨rfl, r_y261_left⟩, rfl⟩⟩⟩⟩ := h258
 obtain ⟨rfl, r_y262⟩ := h259
 refine Rg_op rfl (op_move (v := (Value.tuple [(Value.agg [(Value.slice a_y260_records sync_2.1.records.length c_y260_records), (Value.int .i64 sync_2.1.many), (Value.int .i64 sync_2.1.synced)].toArray), (Value.agg [(Value.slice a_y261_sectors sync_2.2.1.sectors.length c_y261_sectors), (Value.slice a_y261_pending sync_2.2.1.pending.length c_y261_pending), (Value.int .i64 sync_2.2.1.left), (Value.bool sync_2.2.1.stopped)].toArray), (Value.int .i64 sync_2.2.2)].toArray)) rfl ?_)
 refine Rg_op rfl (op_extract (v := (Value.agg [(Value.slice a_y260_records sync_2.1.records.length c_y260_records), (Value.int .i64 sync_2.1.many), (Value.int .i64 sync_2.1.synced)].toArray)) rfl rfl ?_)
 refine Rg_op rfl (op_extract (v := (Value.agg [(Value.slice a_y261_sectors sync_2.2.1.sectors.length c_y261_sectors), (Value.slice a_y261_pending sync_2.2.1.pending.length c_y261_pending), (Value.int .i64 sync_2.2.1.left), (Value.bool sync_2.2.1.stopped)].toArray)) rfl rfl ?_)
 refine Rg_op rfl (op_extract (v := (Value.int .i64 sync_2.2.2)) rfl rfl ?_)
 refine Rg_op rfl (op_alloc ty52 hs252 ?_)
 intro b263 w264 _ p265 hs266
 replace f_y33_records := f_y33_records.step p265; replace f_y181_records := f_y181_records.step p265; replace f_y205_records := f_y205_records.step p265; replace f_y206_sectors := f_y206_sectors.step p265; replace f_y206_pending := f_y206_pending.step p265; replace f_y237_records := f_y237_records.step p265; replace f_y260_records := f_y260_records.step p265; replace f_y261_sectors := f_y261_sectors.step p265; replace f_y261_pending := f_y261_pending.step p265; clear p265 hs252
 refine Rg_op rfl (op_alloc ty25 hs266 ?_)
 intro b268 w269 _ p270 hs271
 replace f_y33_records := f_y33_records.step p270; replace f_y181_records := f_y181_records.step p270; replace f_y205_records := f_y205_records.step p270; replace f_y206_sectors := f_y206_sectors.step p270; replace f_y206_pending := f_y206_pending.step p270; replace f_y237_records := f_y237_records.step p270; replace f_y260_records := f_y260_records.step p270; replace f_y261_sectors := f_y261_sectors.step p270; replace f_y261_pending := f_y261_pending.step p270; clear p270 hs266
 refine Rg_op_ (op_store (cs := [(Value.slice none 0 0), (Value.int .i64 0), (Value.int .i64 0)]) (vs := [(Value.slice a_y260_records sync_2.1.records.length c_y260_records), (Value.int .i64 sync_2.1.many), (Value.int .i64 sync_2.1.synced)]) (cs' := [(Value.slice a_y260_records sync_2.1.records.length c_y260_records), (Value.int .i64 sync_2.1.many), (Value.int .i64 sync_2.1.synced)]) (bs' := [(some b268, Obj.cells [(Value.slice none 0 0), (Value.slice none 0 0), (Value.int .i64 0), (Value.bool false)].toArray 25), (some b263, Obj.cells [(Value.slice a_y260_records sync_2.1.records.length c_y260_records), (Value.int .i64 sync_2.1.many), (Value.int .i64 sync_2.1.synced)].toArray 52), (some b239, Obj.cells [(Value.slice a_y237_records open_2.1.records.length c_y237_records), (Value.int .i64 open_2.1.many), (Value.int .i64 open_2.1.synced)].toArray 52), (some b213, Obj.cells [(Value.slice a_y206_sectors sync_1.2.1.sectors.length c_y206_sectors), (Value.slice a_y206_pending sync_1.2.1.pending.length c_y206_pending), (Value.int .i64 sync_1.2.1.left), (Value.bool sync_1.2.1.stopped)].toArray 25), (some b208, Obj.cells [(Value.slice a_y205_records sync_1.1.records.length c_y205_records), (Value.int .i64 sync_1.1.many), (Value.int .i64 sync_1.1.synced)].toArray 52), (some b183, Obj.cells [(Value.slice a_y181_records append_2.1.records.length c_y181_records), (Value.int .i64 append_2.1.many), (Value.int .i64 append_2.1.synced)].toArray 52), (some b35, Obj.cells [(Value.slice a_y33_records open_1.1.records.length c_y33_records), (Value.int .i64 open_1.1.many), (Value.int .i64 open_1.1.synced)].toArray 52)]) (i := 1) ty52 hs271 rfl rfl rfl rfl rfl (le_lit rfl) rfl rfl rfl ?_)
 intro w273 p274 hs275
 replace f_y33_records := f_y33_records.step p274; replace f_y181_records := f_y181_records.step p274; replace f_y205_records := f_y205_records.step p274; replace f_y206_sectors := f_y206_sectors.step p274; replace f_y206_pending := f_y206_pending.step p274; replace f_y237_records := f_y237_records.step p274; replace f_y260_records := f_y260_records.step p274; replace f_y261_sectors := f_y261_sectors.step p274; replace f_y261_pending := f_y261_pending.step p274; clear p274 hs271
 refine Rg_op_ (op_store (cs := [(Value.slice none 0 0), (Value.slice none 0 0), (Value.int .i64 0), (Value.bool false)]) (vs := [(Value.slice a_y261_sectors sync_2.2.1.sectors.length c_y261_sectors), (Value.slice a_y261_pending sync_2.2.1.pending.length c_y261_pending), (Value.int .i64 sync_2.2.1.left), (Value.bool sync_2.2.1.stopped)]) (cs' := [(Value.slice a_y261_sectors sync_2.2.1.sectors.length c_y261_sectors), (Value.slice a_y261_pending sync_2.2.1.pending.length c_y261_pending), (Value.int .i64 sync_2.2.1.left), (Value.bool sync_2.2.1.stopped)]) (bs' := [(some b268, Obj.cells [(Value.slice a_y261_sectors sync_2.2.1.sectors.length c_y261_sectors), (Value.slice a_y261_pending sync_2.2.1.pending.length c_y261_pending), (Value.int .i64 sync_2.2.1.left), (Value.bool sync_2.2.1.stopped)].toArray 25), (some b263, Obj.cells [(Value.slice a_y260_records sync_2.1.records.length c_y260_records), (Value.int .i64 sync_2.1.many), (Value.int .i64 sync_2.1.synced)].toArray 52), (some b239, Obj.cells [(Value.slice a_y237_records open_2.1.records.length c_y237_records), (Value.int .i64 open_2.1.many), (Value.int .i64 open_2.1.synced)].toArray 52), (some b213, Obj.cells [(Value.slice a_y206_sectors sync_1.2.1.sectors.length c_y206_sectors), (Value.slice a_y206_pending sync_1.2.1.pending.length c_y206_pending), (Value.int .i64 sync_1.2.1.left), (Value.bool sync_1.2.1.stopped)].toArray 25), (some b208, Obj.cells [(Value.slice a_y205_records sync_1.1.records.length c_y205_records), (Value.int .i64 sync_1.1.many), (Value.int .i64 sync_1.1.synced)].toArray 52), (some b183, Obj.cells [(Value.slice a_y181_records append_2.1.records.length c_y181_records), (Value.int .i64 append_2.1.many), (Value.int .i64 append_2.1.synced)].toArray 52), (some b35, Obj.cells [(Value.slice a_y33_records open_1.1.records.length c_y33_records), (Value.int .i64 open_1.1.many), (Value.int .i64 open_1.1.synced)].toArray 52)]) (i := 0) ty25 hs275 rfl rfl rfl rfl rfl (le_lit rfl) rfl rfl rfl ?_)
 intro w276 p277 hs278
 replace f_y33_records := f_y33_records.step p277; replace f_y181_records := f_y181_records.step p277; replace f_y205_records := f_y205_records.step p277; replace f_y206_sectors := f_y206_sectors.step p277; replace f_y206_pending := f_y206_pending.step p277; replace f_y237_records := f_y237_records.step p277; replace f_y260_records := f_y260_records.step p277; replace f_y261_sectors := f_y261_sectors.step p277; replace f_y261_pending := f_y261_pending.step p277; clear p277 hs275
 refine Rg_op rfl (op_assign (v := (Value.int .i64 sync_2.2.2)) rfl ?_)
 refine Rg_nil ?_
 refine Wp_reset [] [(2, (Value.int .i64 new_1.2)), (3, (Value.pointer (some ⟨b35, 0, none⟩))), (4, (Value.int .i64 open_1.2)), (6, (Value.int .i64 append_1.2)), (8, (Value.int .i64 append_2.2)), (9, (Value.pointer (some ⟨b208, 0, none⟩))), (11, (Value.int .i64 sync_1.2.2)), (12, (Value.pointer (some ⟨b239, 0, none⟩))), (13, (Value.int .i64 open_2.2)), (16, (Value.int .i64 sync_2.2.2))] rfl ⟨rfl, rfl, rfl, rfl, rfl, rfl, rfl, rfl, rfl, rfl, trivial⟩ fun ξ279 => ?_
 replace hm := jn_elim hm; obtain ⟨k281, hk282, hm⟩ := hm
 refine Wp_seqJ [0, 58, 59, 60, 61, 62, 63, 64, 65, 66, 67, 68, 69, 70, 71, 72, 73, 74, 75, 76, 77, 78, 79, 80, 81, 82, 83, 84, 85, 86, 87, 88, 89, 90, 91, 92, 93, 94, 95, 96, 97, 98, 99, 100, 101, 102, 103, 104, 105, 106, 107, 108, 109, 110, 111, 112, 113, 114, 115, 116, 117, 118] (fun fr w' => ∃ (v_1 : Bool) (Ebs : Ents), Ebs = [(some b268, Obj.cells [(Value.slice a_y261_sectors sync_2.2.1.sectors.length c_y261_sectors), (Value.slice a_y261_pending sync_2.2.1.pending.length c_y261_pending), (Value.int .i64 sync_2.2.1.left), (Value.bool sync_2.2.1.stopped)].toArray 25), (some b263, Obj.cells [(Value.slice a_y260_records sync_2.1.records.length c_y260_records), (Value.int .i64 sync_2.1.many), (Value.int .i64 sync_2.1.synced)].toArray 52), (some b239, Obj.cells [(Value.slice a_y237_records open_2.1.records.length c_y237_records), (Value.int .i64 open_2.1.many), (Value.int .i64 open_2.1.synced)].toArray 52), (some b213, Obj.cells [(Value.slice a_y206_sectors sync_1.2.1.sectors.length c_y206_sectors), (Value.slice a_y206_pending sync_1.2.1.pending.length c_y206_pending), (Value.int .i64 sync_1.2.1.left), (Value.bool sync_1.2.1.stopped)].toArray 25), (some b208, Obj.cells [(Value.slice a_y205_records sync_1.1.records.length c_y205_records), (Value.int .i64 sync_1.1.many), (Value.int .i64 sync_1.1.synced)].toArray 52), (some b183, Obj.cells [(Value.slice a_y181_records append_2.1.records.length c_y181_records), (Value.int .i64 append_2.1.many), (Value.int .i64 append_2.1.synced)].toArray 52), (some b35, Obj.cells [(Value.slice a_y33_records open_1.1.records.length c_y33_records), (Value.int .i64 open_1.1.many), (Value.int .i64 open_1.1.synced)].toArray 52)] ∧ fr [] [(0, (Value.bool v_1))] ∧ Step (ks [(some b268, Obj.cells [(Value.slice a_y261_sectors sync_2.2.1.sectors.length c_y261_sectors), (Value.slice a_y261_pending sync_2.2.1.pending.length c_y261_pending), (Value.int .i64 sync_2.2.1.left), (Value.bool sync_2.2.1.stopped)].toArray 25), (some b263, Obj.cells [(Value.slice a_y260_records sync_2.1.records.length c_y260_records), (Value.int .i64 sync_2.1.many), (Value.int .i64 sync_2.1.synced)].toArray 52), (some b239, Obj.cells [(Value.slice a_y237_records open_2.1.records.length c_y237_records), (Value.int .i64 open_2.1.many), (Value.int .i64 open_2.1.synced)].toArray 52), (some b213, Obj.cells [(Value.slice a_y206_sectors sync_1.2.1.sectors.length c_y206_sectors), (Value.slice a_y206_pending sync_1.2.1.pending.length c_y206_pending), (Value.int .i64 sync_1.2.1.left), (Value.bool sync_1.2.1.stopped)].toArray 25), (some b208, Obj.cells [(Value.slice a_y205_records sync_1.1.records.length c_y205_records), (Value.int .i64 sync_1.1.many), (Value.int .i64 sync_1.1.synced)].toArray 52), (some b183, Obj.cells [(Value.slice a_y181_records append_2.1.records.length c_y181_records), (Value.int .i64 append_2.1.many), (Value.int .i64 append_2.1.synced)].toArray 52), (some b35, Obj.cells [(Value.slice a_y33_records open_1.1.records.length c_y33_records), (Value.int .i64 open_1.1.many), (Value.int .i64 open_1.1.synced)].toArray 52)] O) w276 (ks Ebs O) w' ∧ St ⟨w, [], []⟩ O w' Ebs ∧ k281 v_1 = some x) ?_ ?_
 ·
  rintro ρ288 w284 ⟨v_1, Ebs, hEbs, hfr287, hst286, hs285, hm⟩
  replace hm := jnE1 hk282 hm
  subst hEbs; rw [hfr287.eq]; clear hfr287
  replace f_y33_records := f_y33_records.step hst286; replace f_y181_records := f_y181_records.step hst286; replace f_y205_records := f_y205_records.step hst286; replace f_y206_sectors := f_y206_sectors.step hst286; replace f_y206_pending := f_y206_pending.step hst286; replace f_y237_records := f_y237_records.step hst286; replace f_y260_records := f_y260_records.step hst286; replace f_y261_sectors := f_y261_sectors.step hst286; replace f_y261_pending := f_y261_pending.step hst286; clear hst286 hs278
  refine Wp_ret ?_
  have hz := step_all hs285
  replace f_y33_records := f_y33_records.step hz; replace f_y181_records := f_y181_records.step hz; replace f_y205_records := f_y205_records.step hz; replace f_y206_sectors := f_y206_sectors.step hz; replace f_y206_pending := f_y206_pending.step hz; replace f_y237_records := f_y237_records.step hz; replace f_y260_records := f_y260_records.step hz; replace f_y261_sectors := f_y261_sectors.step hz; replace f_y261_pending := f_y261_pending.step hz
  refine ⟨_, (show Closes [] _ _ from rfl), [(Value.bool v_1)], ⟨rfl, trivial⟩, hs285.ext, ?_⟩
  exact Vr.eq (a := vB) (x := v_1) rfl (Option.some.inj hm)
 ·
  intro K283 hK283
  have ch289 := Step.refl (ks [(some b268, Obj.cells [(Value.slice a_y261_sectors sync_2.2.1.sectors.length c_y261_sectors), (Value.slice a_y261_pending sync_2.2.1.pending.length c_y261_pending), (Value.int .i64 sync_2.2.1.left), (Value.bool sync_2.2.1.stopped)].toArray 25), (some b263, Obj.cells [(Value.slice a_y260_records sync_2.1.records.length c_y260_records), (Value.int .i64 sync_2.1.many), (Value.int .i64 sync_2.1.synced)].toArray 52), (some b239, Obj.cells [(Value.slice a_y237_records open_2.1.records.length c_y237_records), (Value.int .i64 open_2.1.many), (Value.int .i64 open_2.1.synced)].toArray 52), (some b213, Obj.cells [(Value.slice a_y206_sectors sync_1.2.1.sectors.length c_y206_sectors), (Value.slice a_y206_pending sync_1.2.1.pending.length c_y206_pending), (Value.int .i64 sync_1.2.1.left), (Value.bool sync_1.2.1.stopped)].toArray 25), (some b208, Obj.cells [(Value.slice a_y205_records sync_1.1.records.length c_y205_records), (Value.int .i64 sync_1.1.many), (Value.int .i64 sync_1.1.synced)].toArray 52), (some b183, Obj.cells [(Value.slice a_y181_records append_2.1.records.length c_y181_records), (Value.int .i64 append_2.1.many), (Value.int .i64 append_2.1.synced)].toArray 52), (some b35, Obj.cells [(Value.slice a_y33_records open_1.1.records.length c_y33_records), (Value.int .i64 open_1.1.many), (Value.int .i64 open_1.1.synced)].toArray 52)] O) w276
  refine Wp_region ?_
  refine Rg_op rfl (op_move (v := (Value.int .i64 new_1.2)) rfl ?_)
  refine Rg_op rfl (op_eql rfl rfl ?_)
  refine Rg_op rfl (op_move (v := (Value.bool (decide (new_1.2 = 0)))) rfl ?_)
  refine Rg_case (fun hg290 => ?_) (fun hg290 => ?_)
  ·
   replace hm := bif_t hm hg290
   refine Rg_opg rfl rfl rfl (op_move (v := (Value.int .i64 open_1.2)) rfl ?_)
   refine Rg_opg rfl rfl rfl (op_eql rfl rfl ?_)
   refine Rg_op rfl (op_pick_t (v := (Value.bool (decide (open_1.2 = 0)))) rfl rfl ?_)
   refine Rg_op rfl (op_move (v := (Value.bool (decide (open_1.2 = 0)))) rfl ?_)
   refine Rg_case (fun hg291 => ?_) (fun hg291 => ?_)
   ·
    replace hm := bif_t hm hg291
    refine Rg_opg rfl rfl rfl (op_fieldAddr ty52 rfl ty22 (by decide) rfl (rfl : _ = (⟨_, 0, none⟩ : Addr)) ?_)
    refine Rg_opg rfl rfl rfl (op_load (cs := [(Value.slice a_y33_records open_1.1.records.length c_y33_records), (Value.int .i64 open_1.1.many), (Value.int .i64 open_1.1.synced)]) (i := 6) ty22 hs278 rfl rfl rfl ?_)
    refine Rg_opg rfl rfl rfl (op_len Try.underlying22 rfl ?_)
    have rl292 := inK_len f_y33_records
    refine Rg_opg rfl rfl rfl (op_eql rfl rfl ?_)
    refine Rg_op rfl (op_pick_t (v := (Value.bool (decide ((open_1.1.records.length : Int) = 0)))) rfl rfl ?_)
    refine Rg_op rfl (op_move (v := (Value.bool (decide ((open_1.1.records.length : Int) = 0)))) rfl ?_)
    refine Rg_case (fun hg293 => ?_) (fun hg293 => ?_)
    ·
     replace hm := bif_t hm hg293
     refine Rg_opg rfl rfl rfl (op_loadA (cs := [(Value.slice a_y33_records open_1.1.records.length c_y33_records), (Value.int .i64 open_1.1.many), (Value.int .i64 open_1.1.synced)]) (vs := [(Value.slice a_y33_records open_1.1.records.length c_y33_records), (Value.int .i64 open_1.1.many), (Value.int .i64 open_1.1.synced)]) (i := 6) ty52 hs278 rfl rfl rfl rfl ?_)
     replace hm := bd hm; obtain ⟨room_1, hv294, hm⟩ := hm
     refine Rg_opg rfl rfl rfl (op_call Try.call34 (c34_journal_Room (l := open_1.1) hs278.ltw f_y33_records r_y33_many r_y33_synced hv294) rfl ?_)
     rintro v295 w296 ⟨hx297, h298⟩
     have hs299 := hs278.call hx297
     have p300 := Step.ext (O := ks [(some b268, Obj.cells [(Value.slice a_y261_sectors sync_2.2.1.sectors.length c_y261_sectors), (Value.slice a_y261_pending sync_2.2.1.pending.length c_y261_pending), (Value.int .i64 sync_2.2.1.left), (Value.bool sync_2.2.1.stopped)].toArray 25), (some b263, Obj.cells [(Value.slice a_y260_records sync_2.1.records.length c_y260_records), (Value.int .i64 sync_2.1.many), (Value.int .i64 sync_2.1.synced)].toArray 52), (some b239, Obj.cells [(Value.slice a_y237_records open_2.1.records.length c_y237_records), (Value.int .i64 open_2.1.many), (Value.int .i64 open_2.1.synced)].toArray 52), (some b213, Obj.cells [(Value.slice a_y206_sectors sync_1.2.1.sectors.length c_y206_sectors), (Value.slice a_y206_pending sync_1.2.1.pending.length c_y206_pending), (Value.int .i64 sync_1.2.1.left), (Value.bool sync_1.2.1.stopped)].toArray 25), (some b208, Obj.cells [(Value.slice a_y205_records sync_1.1.records.length c_y205_records), (Value.int .i64 sync_1.1.many), (Value.int .i64 sync_1.1.synced)].toArray 52), (some b183, Obj.cells [(Value.slice a_y181_records append_2.1.records.length c_y181_records), (Value.int .i64 append_2.1.many), (Value.int .i64 append_2.1.synced)].toArray 52), (some b35, Obj.cells [(Value.slice a_y33_records open_1.1.records.length c_y33_records), (Value.int .i64 open_1.1.many), (Value.int .i64 open_1.1.synced)].toArray 52)] O) hx297
     clear hx297
     replace f_y33_records := f_y33_records.step p300; replace f_y181_records := f_y181_records.step p300; replace f_y205_records := f_y205_records.step p300; replace f_y206_sectors := f_y206_sectors.step p300; replace f_y206_pending := f_y206_pending.step p300; replace f_y237_records := f_y237_records.step p300; replace f_y260_records := f_y260_records.step p300; replace f_y261_sectors := f_y261_sectors.step p300; replace f_y261_pending := f_y261_pending.step p300; replace ch289 := ch289.trans p300; clear p300 hs278
     obtain ⟨rfl, r_y301⟩ := h298
     refine Rg_opg rfl rfl rfl (op_eql rfl rfl ?_)
     refine Rg_op rfl (op_pick_t (v := (Value.bool (decide (room_1 = 112)))) rfl rfl ?_)
     refine Rg_op rfl (op_move (v := (Value.bool (decide (room_1 = 112)))) rfl ?_)
     refine Rg_case (fun hg302 => ?_) (fun hg302 => ?_)
     ·
      replace hm := bif_t hm hg302
      refine Rg_opg rfl rfl rfl (op_move (v := (Value.int .i64 append_1.2)) rfl ?_)
      refine Rg_opg rfl rfl rfl (op_eql rfl rfl ?_)
      refine Rg_op rfl (op_pick_t (v := (Value.bool (decide (append_1.2 = 2)))) rfl rfl ?_)
      refine Rg_op rfl (op_move (v := (Value.bool (decide (append_1.2 = 2)))) rfl ?_)
      refine Rg_case (fun hg303 => ?_) (fun hg303 => ?_)
      ·
       replace hm := bif_t hm hg303
       refine Rg_opg rfl rfl rfl (op_move (v := (Value.int .i64 append_2.2)) rfl ?_)
       refine Rg_opg rfl rfl rfl (op_eql rfl rfl ?_)
       refine Rg_op rfl (op_pick_t (v := (Value.bool (decide (append_2.2 = 0)))) rfl rfl ?_)
       refine Rg_op rfl (op_move (v := (Value.bool (decide (append_2.2 = 0)))) rfl ?_)
       refine Rg_case (fun hg304 => ?_) (fun hg304 => ?_)
       ·
        replace hm := bif_t hm hg304
        refine Rg_opg rfl rfl rfl (op_move (v := (Value.int .i64 sync_1.2.2)) rfl ?_)
        refine Rg_opg rfl rfl rfl (op_eql rfl rfl ?_)
        refine Rg_op rfl (op_pick_t (v := (Value.bool (decide (sync_1.2.2 = 0)))) rfl rfl ?_)
        refine Rg_op rfl (op_move (v := (Value.bool (decide (sync_1.2.2 = 0)))) rfl ?_)
        refine Rg_case (fun hg305 => ?_) (fun hg305 => ?_)
        ·
         replace hm := bif_t hm hg305
         refine Rg_opg rfl rfl rfl (op_fieldAddr ty52 rfl ty3 (by decide) rfl (rfl : _ = (⟨_, 2, none⟩ : Addr)) ?_)
         refine Rg_opg rfl rfl rfl (op_load (cs := [(Value.slice a_y205_records sync_1.1.records.length c_y205_records), (Value.int .i64 sync_1.1.many), (Value.int .i64 sync_1.1.synced)]) (i := 4) ty3 hs299 rfl rfl rfl ?_)
         refine Rg_opg rfl rfl rfl (op_eql rfl rfl ?_)
         refine Rg_op rfl (op_pick_t (v := (Value.bool (decide (sync_1.1.synced = 1)))) rfl rfl ?_)
         refine Rg_op rfl (op_move (v := (Value.bool (decide (sync_1.1.synced = 1)))) rfl ?_)
         refine Rg_case (fun hg306 => ?_) (fun hg306 => ?_)
         ·
          replace hm := bif_t hm hg306
          refine Rg_opg rfl rfl rfl (op_move (v := (Value.int .i64 open_2.2)) rfl ?_)
          refine Rg_opg rfl rfl rfl (op_eql rfl rfl ?_)
          refine Rg_op rfl (op_pick_t (v := (Value.bool (decide (open_2.2 = 0)))) rfl rfl ?_)
          refine Rg_op rfl (op_move (v := (Value.bool (decide (open_2.2 = 0)))) rfl ?_)
          refine Rg_case (fun hg307 => ?_) (fun hg307 => ?_)
          ·
           replace hm := bif_t hm hg307
           refine Rg_opg rfl rfl rfl (op_fieldAddr ty52 rfl ty22 (by decide) rfl (rfl : _ = (⟨_, 0, none⟩ : Addr)) ?_)
           refine Rg_opg rfl rfl rfl (op_load (cs := [(Value.slice a_y237_records open_2.1.records.length c_y237_records), (Value.int .i64 open_2.1.many), (Value.int .i64 open_2.1.synced)]) (i := 2) ty22 hs299 rfl rfl rfl ?_)
           refine Rg_opg rfl rfl rfl (op_len Try.underlying22 rfl ?_)
           have rl308 := inK_len f_y237_records
           refine Rg_opg rfl rfl rfl (op_eql rfl rfl ?_)
           refine Rg_op rfl (op_pick_t (v := (Value.bool (decide ((open_2.1.records.length : Int) = 1)))) rfl rfl ?_)
           refine Rg_op rfl (op_move (v := (Value.bool (decide ((open_2.1.records.length : Int) = 1)))) rfl ?_)
           refine Rg_case (fun hg309 => ?_) (fun hg309 => ?_)
           ·
            replace hm := bif_t hm hg309
            refine Rg_opg rfl rfl rfl (op_fieldAddr ty52 rfl ty22 (by decide) rfl (rfl : _ = (⟨_, 0, none⟩ : Addr)) ?_)
            refine Rg_opg rfl rfl rfl (op_load (cs := [(Value.slice a_y237_records open_2.1.records.length c_y237_records), (Value.int .i64 open_2.1.many), (Value.int .i64 open_2.1.synced)]) (i := 2) ty22 hs299 rfl rfl rfl ?_)
            replace hm := ck_some hm; obtain ⟨hc310, hm⟩ := hm
            refine Rg_opg rfl rfl rfl (op_indexAddr (q := (rSl rU8)) ty22 ty41 rfl rfl f_y237_records rfl hc310.1 hc310.2 ?_)
            intro p311 f312
            refine Rg_opg rfl rfl rfl (op_loadP ty41 rfl f312 rfl ?_)
            intro v313 h314
            obtain ⟨a_y315, c_y315, rfl, f_y315⟩ := un_sl h314
            refine Rg_opg rfl rfl rfl (op_bytesToString ty41 Try.underlying5 Try.underlying9 rfl f_y315 ?_)
            refine Rg_opg rfl rfl rfl (op_eqs (a := (open_2.1.records.getD 0 default)) (b := [97, 98]) rfl rfl ?_)
            refine Rg_op rfl (op_pick_t (v := (Value.bool (decide ((open_2.1.records.getD 0 default) = [97, 98])))) rfl rfl ?_)
            refine Rg_op rfl (op_move (v := (Value.bool (decide ((open_2.1.records.getD 0 default) = [97, 98])))) rfl ?_)
            refine Rg_case (fun hg316 => ?_) (fun hg316 => ?_)
            ·
             replace hm := bif_t hm hg316
             refine Rg_opg rfl rfl rfl (op_move (v := (Value.int .i64 sync_2.2.2)) rfl ?_)
             refine Rg_opg rfl rfl rfl (op_eql rfl rfl ?_)
             refine Rg_op rfl (op_pick_t (v := (Value.bool (decide (sync_2.2.2 = 450)))) rfl rfl ?_)
             refine Rg_op rfl (op_move (v := (Value.bool (decide (sync_2.2.2 = 450)))) rfl ?_)
             refine Rg_case (fun hg317 => ?_) (fun hg317 => ?_)
             ·
              replace hm := bif_t hm hg317
              refine Rg_opg rfl rfl rfl (op_build (vs := [(Value.slice none 0 0), (Value.int .i64 0), (Value.int .i64 0)]) (parts := []) ty52 pl52 rfl ?_)
              replace hm := bd hm; obtain ⟨check_1, hv318, hm⟩ := hm
              refine Rg_opg rfl rfl rfl (op_call Try.call32 (c32_journal_Check (l := (⟨([] : List (List UInt8)), 0, 0⟩ : XJournal)) hs299.ltw SlR.nil_ (show InK .i64 0 from by decide) (show InK .i64 0 from by decide) hv318) rfl ?_)
              rintro v319 w320 ⟨hx321, h322⟩
              have hs323 := hs299.call hx321
              have p324 := Step.ext (O := ks [(some b268, Obj.cells [(Value.slice a_y261_sectors sync_2.2.1.sectors.length c_y261_sectors), (Value.slice a_y261_pending sync_2.2.1.pending.length c_y261_pending), (Value.int .i64 sync_2.2.1.left), (Value.bool sync_2.2.1.stopped)].toArray 25), (some b263, Obj.cells [(Value.slice a_y260_records sync_2.1.records.length c_y260_records), (Value.int .i64 sync_2.1.many), (Value.int .i64 sync_2.1.synced)].toArray 52), (some b239, Obj.cells [(Value.slice a_y237_records open_2.1.records.length c_y237_records), (Value.int .i64 open_2.1.many), (Value.int .i64 open_2.1.synced)].toArray 52), (some b213, Obj.cells [(Value.slice a_y206_sectors sync_1.2.1.sectors.length c_y206_sectors), (Value.slice a_y206_pending sync_1.2.1.pending.length c_y206_pending), (Value.int .i64 sync_1.2.1.left), (Value.bool sync_1.2.1.stopped)].toArray 25), (some b208, Obj.cells [(Value.slice a_y205_records sync_1.1.records.length c_y205_records), (Value.int .i64 sync_1.1.many), (Value.int .i64 sync_1.1.synced)].toArray 52), (some b183, Obj.cells [(Value.slice a_y181_records append_2.1.records.length c_y181_records), (Value.int .i64 append_2.1.many), (Value.int .i64 append_2.1.synced)].toArray 52), (some b35, Obj.cells [(Value.slice a_y33_records open_1.1.records.length c_y33_records), (Value.int .i64 open_1.1.many), (Value.int .i64 open_1.1.synced)].toArray 52)] O) hx321
              clear hx321
              replace f_y33_records := f_y33_records.step p324; replace f_y181_records := f_y181_records.step p324; replace f_y205_records := f_y205_records.step p324; replace f_y206_sectors := f_y206_sectors.step p324; replace f_y206_pending := f_y206_pending.step p324; replace f_y237_records := f_y237_records.step p324; replace f_y260_records := f_y260_records.step p324; replace f_y261_sectors := f_y261_sectors.step p324; replace f_y261_pending := f_y261_pending.step p324; replace f312 := f312.step p324; replace f_y315 := f_y315.step p324; replace ch289 := ch289.trans p324; clear p324 hs299
              obtain ⟨rfl, r_y325⟩ := h322
              refine Rg_opg rfl rfl rfl (op_eql rfl rfl ?_)
              refine Rg_op rfl (op_pick_t (v := (Value.bool (decide (check_1 = 1)))) rfl rfl ?_)
              refine Rg_op rfl (op_assign (v := (Value.bool (decide (check_1 = 1)))) rfl ?_)
              refine Rg_nil ?_
              exact hK283 _ _ ⟨(decide (check_1 = 1)), _, rfl, ⟨(by repeat (first | with_reducible exact Out.refl _ _ | refine Out.upd ?_ rfl | refine Out.updL ?_ rfl | refine Out.mix' ?_ rfl | exact Out.refl _ _)), rfl, rfl, trivial⟩, ch289, hs323, hm⟩
             ·
              replace hm := bif_f hm hg317
              iterate 3 refine Rg_opx rfl (asB_ne rfl rfl) rfl ?_
              refine Rg_op rfl (op_pick_f (v := (Value.bool false)) rfl rfl ?_)
              refine Rg_op rfl (op_assign (v := (Value.bool false)) rfl ?_)
              refine Rg_nil ?_
              exact hK283 _ _ ⟨false, _, rfl, ⟨(by repeat (first | with_reducible exact Out.refl _ _ | refine Out.upd ?_ rfl | refine Out.updL ?_ rfl | refine Out.mix' ?_ rfl | exact Out.refl _ _)), rfl, rfl, trivial⟩, ch289, hs299, hm⟩
            ·
             replace hm := bif_f hm hg316
             iterate 2 refine Rg_opx rfl (asB_ne rfl rfl) rfl ?_
             refine Rg_op rfl (op_pick_f (v := (Value.bool false)) rfl rfl ?_)
             refine Rg_op rfl (op_move (v := (Value.bool false)) rfl ?_)
             iterate 3 refine Rg_opx rfl (asB_ne rfl rfl) rfl ?_
             refine Rg_op rfl (op_pick_f (v := (Value.bool false)) rfl rfl ?_)
             refine Rg_op rfl (op_assign (v := (Value.bool false)) rfl ?_)
             refine Rg_nil ?_
             exact hK283 _ _ ⟨false, _, rfl, ⟨(by repeat (first | with_reducible exact Out.refl _ _ | refine Out.upd ?_ rfl | refine Out.updL ?_ rfl | refine Out.mix' ?_ rfl | exact Out.refl _ _)), rfl, rfl, trivial⟩, ch289, hs299, hm⟩
           ·
            replace hm := bif_f hm hg309
            iterate 6 refine Rg_opx rfl (asB_ne rfl rfl) rfl ?_
            refine Rg_op rfl (op_pick_f (v := (Value.bool false)) rfl rfl ?_)
            refine Rg_op rfl (op_move (v := (Value.bool false)) rfl ?_)
            iterate 2 refine Rg_opx rfl (asB_ne rfl rfl) rfl ?_
            refine Rg_op rfl (op_pick_f (v := (Value.bool false)) rfl rfl ?_)
            refine Rg_op rfl (op_move (v := (Value.bool false)) rfl ?_)
            iterate 3 refine Rg_opx rfl (asB_ne rfl rfl) rfl ?_
            refine Rg_op rfl (op_pick_f (v := (Value.bool false)) rfl rfl ?_)
            refine Rg_op rfl (op_assign (v := (Value.bool false)) rfl ?_)
            refine Rg_nil ?_
            exact hK283 _ _ ⟨false, _, rfl, ⟨(by repeat (first | with_reducible exact Out.refl _ _ | refine Out.upd ?_ rfl | refine Out.updL ?_ rfl | refine Out.mix' ?_ rfl | exact Out.refl _ _)), rfl, rfl, trivial⟩, ch289, hs299, hm⟩
          ·
           replace hm := bif_f hm hg307
           iterate 4 refine Rg_opx rfl (asB_ne rfl rfl) rfl ?_
           refine Rg_op rfl (op_pick_f (v := (Value.bool false)) rfl rfl ?_)
           refine Rg_op rfl (op_move (v := (Value.bool false)) rfl ?_)
           iterate 6 refine Rg_opx rfl (asB_ne rfl rfl) rfl ?_
           refine Rg_op rfl (op_pick_f (v := (Value.bool false)) rfl rfl ?_)
           refine Rg_op rfl (op_move (v := (Value.bool false)) rfl ?_)
           iterate 2 refine Rg_opx rfl (asB_ne rfl rfl) rfl ?_
           refine Rg_op rfl (op_pick_f (v := (Value.bool false)) rfl rfl ?_)
           refine Rg_op rfl (op_move (v := (Value.bool false)) rfl ?_)
           iterate 3 refine Rg_opx rfl (asB_ne rfl rfl) rfl ?_
           refine Rg_op rfl (op_pick_f (v := (Value.bool false)) rfl rfl ?_)
           refine Rg_op rfl (op_assign (v := (Value.bool false)) rfl ?_)
           refine Rg_nil ?_
           exact hK283 _ _ ⟨false, _, rfl, ⟨(by repeat (first | with_reducible exact Out.refl _ _ | refine Out.upd ?_ rfl | refine Out.updL ?_ rfl | refine Out.mix' ?_ rfl | exact Out.refl _ _)), rfl, rfl, trivial⟩, ch289, hs299, hm⟩
         ·
          replace hm := bif_f hm hg306
          iterate 2 refine Rg_opx rfl (asB_ne rfl rfl) rfl ?_
          refine Rg_op rfl (op_pick_f (v := (Value.bool false)) rfl rfl ?_)
          refine Rg_op rfl (op_move (v := (Value.bool false)) rfl ?_)
          iterate 4 refine Rg_opx rfl (asB_ne rfl rfl) rfl ?_
          refine Rg_op rfl (op_pick_f (v := (Value.bool false)) rfl rfl ?_)
          refine Rg_op rfl (op_move (v := (Value.bool false)) rfl ?_)
          iterate 6 refine Rg_opx rfl (asB_ne rfl rfl) rfl ?_
          refine Rg_op rfl (op_pick_f (v := (Value.bool false)) rfl rfl ?_)
          refine Rg_op rfl (op_move (v := (Value.bool false)) rfl ?_)
          iterate 2 refine Rg_opx rfl (asB_ne rfl rfl) rfl ?_
          refine Rg_op rfl (op_pick_f (v := (Value.bool false)) rfl rfl ?_)
          refine Rg_op rfl (op_move (v := (Value.bool false)) rfl ?_)
          iterate 3 refine Rg_opx rfl (asB_ne rfl rfl) rfl ?_
          refine Rg_op rfl (op_pick_f (v := (Value.bool false)) rfl rfl ?_)
          refine Rg_op rfl (op_assign (v := (Value.bool false)) rfl ?_)
          refine Rg_nil ?_
          exact hK283 _ _ ⟨false, _, rfl, ⟨(by repeat (first | with_reducible exact Out.refl _ _ | refine Out.upd ?_ rfl | refine Out.updL ?_ rfl | refine Out.mix' ?_ rfl | exact Out.refl _ _)), rfl, rfl, trivial⟩, ch289, hs299, hm⟩
        ·
         replace hm := bif_f hm hg305
         iterate 3 refine Rg_opx rfl (asB_ne rfl rfl) rfl ?_
         refine Rg_op rfl (op_pick_f (v := (Value.bool false)) rfl rfl ?_)
         refine Rg_op rfl (op_move (v := (Value.bool false)) rfl ?_)
         iterate 2 refine Rg_opx rfl (asB_ne rfl rfl) rfl ?_
         refine Rg_op rfl (op_pick_f (v := (Value.bool false)) rfl rfl ?_)
         refine Rg_op rfl (op_move (v := (Value.bool false)) rfl ?_)
         iterate 4 refine Rg_opx rfl (asB_ne rfl rfl) rfl ?_
         refine Rg_op rfl (op_pick_f (v := (Value.bool false)) rfl rfl ?_)
         refine Rg_op rfl (op_move (v := (Value.bool false)) rfl ?_)
         iterate 6 refine Rg_opx rfl (asB_ne rfl rfl) rfl ?_
         refine Rg_op rfl (op_pick_f (v := (Value.bool false)) rfl rfl ?_)
         refine Rg_op rfl (op_move (v := (Value.bool false)) rfl ?_)
         iterate 2 refine Rg_opx rfl (asB_ne rfl rfl) rfl ?_
         refine Rg_op rfl (op_pick_f (v := (Value.bool false)) rfl rfl ?_)
         refine Rg_op rfl (op_move (v := (Value.bool false)) rfl ?_)
         iterate 3 refine Rg_opx rfl (asB_ne rfl rfl) rfl ?_
         refine Rg_op rfl (op_pick_f (v := (Value.bool false)) rfl rfl ?_)
         refine Rg_op rfl (op_assign (v := (Value.bool false)) rfl ?_)
         refine Rg_nil ?_
         exact hK283 _ _ ⟨false, _, rfl, ⟨(by repeat (first | with_reducible exact Out.refl _ _ | refine Out.upd ?_ rfl | refine Out.updL ?_ rfl | refine Out.mix' ?_ rfl | exact Out.refl _ _)), rfl, rfl, trivial⟩, ch289, hs299, hm⟩
       ·
        replace hm := bif_f hm hg304
        iterate 2 refine Rg_opx rfl (asB_ne rfl rfl) rfl ?_
        refine Rg_op rfl (op_pick_f (v := (Value.bool false)) rfl rfl ?_)
        refine Rg_op rfl (op_move (v := (Value.bool false)) rfl ?_)
        iterate 3 refine Rg_opx rfl (asB_ne rfl rfl) rfl ?_
        refine Rg_op rfl (op_pick_f (v := (Value.bool false)) rfl rfl ?_)
        refine Rg_op rfl (op_move (v := (Value.bool false)) rfl ?_)
        iterate 2 refine Rg_opx rfl (asB_ne rfl rfl) rfl ?_
        refine Rg_op rfl (op_pick_f (v := (Value.bool false)) rfl rfl ?_)
        refine Rg_op rfl (op_move (v := (Value.bool false)) rfl ?_)
        iterate 4 refine Rg_opx rfl (asB_ne rfl rfl) rfl ?_
        refine Rg_op rfl (op_pick_f (v := (Value.bool false)) rfl rfl ?_)
        refine Rg_op rfl (op_move (v := (Value.bool false)) rfl ?_)
        iterate 6 refine Rg_opx rfl (asB_ne rfl rfl) rfl ?_
        refine Rg_op rfl (op_pick_f (v := (Value.bool false)) rfl rfl ?_)
        refine Rg_op rfl (op_move (v := (Value.bool false)) rfl ?_)
        iterate 2 refine Rg_opx rfl (asB_ne rfl rfl) rfl ?_
        refine Rg_op rfl (op_pick_f (v := (Value.bool false)) rfl rfl ?_)
        refine Rg_op rfl (op_move (v := (Value.bool false)) rfl ?_)
        iterate 3 refine Rg_opx rfl (asB_ne rfl rfl) rfl ?_
        refine Rg_op rfl (op_pick_f (v := (Value.bool false)) rfl rfl ?_)
        refine Rg_op rfl (op_assign (v := (Value.bool false)) rfl ?_)
        refine Rg_nil ?_
        exact hK283 _ _ ⟨false, _, rfl, ⟨(by repeat (first | with_reducible exact Out.refl _ _ | refine Out.upd ?_ rfl | refine Out.updL ?_ rfl | refine Out.mix' ?_ rfl | exact Out.refl _ _)), rfl, rfl, trivial⟩, ch289, hs299, hm⟩
      ·
       replace hm := bif_f hm hg303
       iterate 2 refine Rg_opx rfl (asB_ne rfl rfl) rfl ?_
       refine Rg_op rfl (op_pick_f (v := (Value.bool false)) rfl rfl ?_)
       refine Rg_op rfl (op_move (v := (Value.bool false)) rfl ?_)
       iterate 2 refine Rg_opx rfl (asB_ne rfl rfl) rfl ?_
       refine Rg_op rfl (op_pick_f (v := (Value.bool false)) rfl rfl ?_)
       refine Rg_op rfl (op_move (v := (Value.bool false)) rfl ?_)
       iterate 3 refine Rg_opx rfl (asB_ne rfl rfl) rfl ?_
       refine Rg_op rfl (op_pick_f (v := (Value.bool false)) rfl rfl ?_)
       refine Rg_op rfl (op_move (v := (Value.bool false)) rfl ?_)
       iterate 2 refine Rg_opx rfl (asB_ne rfl rfl) rfl ?_
       refine Rg_op rfl (op_pick_f (v := (Value.bool false)) rfl rfl ?_)
       refine Rg_op rfl (op_move (v := (Value.bool false)) rfl ?_)
       iterate 4 refine Rg_opx rfl (asB_ne rfl rfl) rfl ?_
       refine Rg_op rfl (op_pick_f (v := (Value.bool false)) rfl rfl ?_)
       refine Rg_op rfl (op_move (v := (Value.bool false)) rfl ?_)
       iterate 6 refine Rg_opx rfl (asB_ne rfl rfl) rfl ?_
       refine Rg_op rfl (op_pick_f (v := (Value.bool false)) rfl rfl ?_)
       refine Rg_op rfl (op_move (v := (Value.bool false)) rfl ?_)
       iterate 2 refine Rg_opx rfl (asB_ne rfl rfl) rfl ?_
       refine Rg_op rfl (op_pick_f (v := (Value.bool false)) rfl rfl ?_)
       refine Rg_op rfl (op_move (v := (Value.bool false)) rfl ?_)
       iterate 3 refine Rg_opx rfl (asB_ne rfl rfl) rfl ?_
       refine Rg_op rfl (op_pick_f (v := (Value.bool false)) rfl rfl ?_)
       refine Rg_op rfl (op_assign (v := (Value.bool false)) rfl ?_)
       refine Rg_nil ?_
       exact hK283 _ _ ⟨false, _, rfl, ⟨(by repeat (first | with_reducible exact Out.refl _ _ | refine Out.upd ?_ rfl | refine Out.updL ?_ rfl | refine Out.mix' ?_ rfl | exact Out.refl _ _)), rfl, rfl, trivial⟩, ch289, hs299, hm⟩
     ·
      replace hm := bif_f hm hg302
      iterate 2 refine Rg_opx rfl (asB_ne rfl rfl) rfl ?_
      refine Rg_op rfl (op_pick_f (v := (Value.bool false)) rfl rfl ?_)
      refine Rg_op rfl (op_move (v := (Value.bool false)) rfl ?_)
      iterate 2 refine Rg_opx rfl (asB_ne rfl rfl) rfl ?_
      refine Rg_op rfl (op_pick_f (v := (Value.bool false)) rfl rfl ?_)
      refine Rg_op rfl (op_move (v := (Value.bool false)) rfl ?_)
      iterate 2 refine Rg_opx rfl (asB_ne rfl rfl) rfl ?_
      refine Rg_op rfl (op_pick_f (v := (Value.bool false)) rfl rfl ?_)
      refine Rg_op rfl (op_move (v := (Value.bool false)) rfl ?_)
      iterate 3 refine Rg_opx rfl (asB_ne rfl rfl) rfl ?_
      refine Rg_op rfl (op_pick_f (v := (Value.bool false)) rfl rfl ?_)
      refine Rg_op rfl (op_move (v := (Value.bool false)) rfl ?_)
      iterate 2 refine Rg_opx rfl (asB_ne rfl rfl) rfl ?_
      refine Rg_op rfl (op_pick_f (v := (Value.bool false)) rfl rfl ?_)
      refine Rg_op rfl (op_move (v := (Value.bool false)) rfl ?_)
      iterate 4 refine Rg_opx rfl (asB_ne rfl rfl) rfl ?_
      refine Rg_op rfl (op_pick_f (v := (Value.bool false)) rfl rfl ?_)
      refine Rg_op rfl (op_move (v := (Value.bool false)) rfl ?_)
      iterate 6 refine Rg_opx rfl (asB_ne rfl rfl) rfl ?_
      refine Rg_op rfl (op_pick_f (v := (Value.bool false)) rfl rfl ?_)
      refine Rg_op rfl (op_move (v := (Value.bool false)) rfl ?_)
      iterate 2 refine Rg_opx rfl (asB_ne rfl rfl) rfl ?_
      refine Rg_op rfl (op_pick_f (v := (Value.bool false)) rfl rfl ?_)
      refine Rg_op rfl (op_move (v := (Value.bool false)) rfl ?_)
      iterate 3 refine Rg_opx rfl (asB_ne rfl rfl) rfl ?_
      refine Rg_op rfl (op_pick_f (v := (Value.bool false)) rfl rfl ?_)
      refine Rg_op rfl (op_assign (v := (Value.bool false)) rfl ?_)
      refine Rg_nil ?_
      exact hK283 _ _ ⟨false, _, rfl, ⟨(by repeat (first | with_reducible exact Out.refl _ _ | refine Out.upd ?_ rfl | refine Out.updL ?_ rfl | refine Out.mix' ?_ rfl | exact Out.refl _ _)), rfl, rfl, trivial⟩, ch289, hs299, hm⟩
    ·
     replace hm := bif_f hm hg293
     iterate 3 refine Rg_opx rfl (asB_ne rfl rfl) rfl ?_
     refine Rg_op rfl (op_pick_f (v := (Value.bool false)) rfl rfl ?_)
     refine Rg_op rfl (op_move (v := (Value.bool false)) rfl ?_)
     iterate 2 refine Rg_opx rfl (asB_ne rfl rfl) rfl ?_
     refine Rg_op rfl (op_pick_f (v := (Value.bool false)) rfl rfl ?_)
     refine Rg_op rfl (op_move (v := (Value.bool false)) rfl ?_)
     iterate 2 refine Rg_opx rfl (asB_ne rfl rfl) rfl ?_
     refine Rg_op rfl (op_pick_f (v := (Value.bool false)) rfl rfl ?_)
     refine Rg_op rfl (op_move (v := (Value.bool false)) rfl ?_)
     iterate 2 refine Rg_opx rfl (asB_ne rfl rfl) rfl ?_
     refine Rg_op rfl (op_pick_f (v := (Value.bool false)) rfl rfl ?_)
     refine Rg_op rfl (op_move (v := (Value.bool false)) rfl ?_)
     iterate 3 refine Rg_opx rfl (asB_ne rfl rfl) rfl ?_
     refine Rg_op rfl (op_pick_f (v := (Value.bool false)) rfl rfl ?_)
     refine Rg_op rfl (op_move (v := (Value.bool false)) rfl ?_)
     iterate 2 refine Rg_opx rfl (asB_ne rfl rfl) rfl ?_
     refine Rg_op rfl (op_pick_f (v := (Value.bool false)) rfl rfl ?_)
     refine Rg_op rfl (op_move (v := (Value.bool false)) rfl ?_)
     iterate 4 refine Rg_opx rfl (asB_ne rfl rfl) rfl ?_
     refine Rg_op rfl (op_pick_f (v := (Value.bool false)) rfl rfl ?_)
     refine Rg_op rfl (op_move (v := (Value.bool false)) rfl ?_)
     iterate 6 refine Rg_opx rfl (asB_ne rfl rfl) rfl ?_
     refine Rg_op rfl (op_pick_f (v := (Value.bool false)) rfl rfl ?_)
     refine Rg_op rfl (op_move (v := (Value.bool false)) rfl ?_)
     iterate 2 refine Rg_opx rfl (asB_ne rfl rfl) rfl ?_
     refine Rg_op rfl (op_pick_f (v := (Value.bool false)) rfl rfl ?_)
     refine Rg_op rfl (op_move (v := (Value.bool false)) rfl ?_)
     iterate 3 refine Rg_opx rfl (asB_ne rfl rfl) rfl ?_
     refine Rg_op rfl (op_pick_f (v := (Value.bool false)) rfl rfl ?_)
     refine Rg_op rfl (op_assign (v := (Value.bool false)) rfl ?_)
     refine Rg_nil ?_
     exact hK283 _ _ ⟨false, _, rfl, ⟨(by repeat (first | with_reducible exact Out.refl _ _ | refine Out.upd ?_ rfl | refine Out.updL ?_ rfl | refine Out.mix' ?_ rfl | exact Out.refl _ _)), rfl, rfl, trivial⟩, ch289, hs278, hm⟩
   ·
    replace hm := bif_f hm hg291
    iterate 4 refine Rg_opx rfl (asB_ne rfl rfl) rfl ?_
    refine Rg_op rfl (op_pick_f (v := (Value.bool false)) rfl rfl ?_)
    refine Rg_op rfl (op_move (v := (Value.bool false)) rfl ?_)
    iterate 3 refine Rg_opx rfl (asB_ne rfl rfl) rfl ?_
    refine Rg_op rfl (op_pick_f (v := (Value.bool false)) rfl rfl ?_)
    refine Rg_op rfl (op_move (v := (Value.bool false)) rfl ?_)
    iterate 2 refine Rg_opx rfl (asB_ne rfl rfl) rfl ?_
    refine Rg_op rfl (op_pick_f (v := (Value.bool false)) rfl rfl ?_)
    refine Rg_op rfl (op_move (v := (Value.bool false)) rfl ?_)
    iterate 2 refine Rg_opx rfl (asB_ne rfl rfl) rfl ?_
    refine Rg_op rfl (op_pick_f (v := (Value.bool false)) rfl rfl ?_)
    refine Rg_op rfl (op_move (v := (Value.bool false)) rfl ?_)
    iterate 2 refine Rg_opx rfl (asB_ne rfl rfl) rfl ?_
    refine Rg_op rfl (op_pick_f (v := (Value.bool false)) rfl rfl ?_)
    refine Rg_op rfl (op_move (v := (Value.bool false)) rfl ?_)
    iterate 3 refine Rg_opx rfl (asB_ne rfl rfl) rfl ?_
    refine Rg_op rfl (op_pick_f (v := (Value.bool false)) rfl rfl ?_)
    refine Rg_op rfl (op_move (v := (Value.bool false)) rfl ?_)
    iterate 2 refine Rg_opx rfl (asB_ne rfl rfl) rfl ?_
    refine Rg_op rfl (op_pick_f (v := (Value.bool false)) rfl rfl ?_)
    refine Rg_op rfl (op_move (v := (Value.bool false)) rfl ?_)
    iterate 4 refine Rg_opx rfl (asB_ne rfl rfl) rfl ?_
    refine Rg_op rfl (op_pick_f (v := (Value.bool false)) rfl rfl ?_)
    refine Rg_op rfl (op_move (v := (Value.bool false)) rfl ?_)
    iterate 6 refine Rg_opx rfl (asB_ne rfl rfl) rfl ?_
    refine Rg_op rfl (op_pick_f (v := (Value.bool false)) rfl rfl ?_)
    refine Rg_op rfl (op_move (v := (Value.bool false)) rfl ?_)
    iterate 2 refine Rg_opx rfl (asB_ne rfl rfl) rfl ?_
    refine Rg_op rfl (op_pick_f (v := (Value.bool false)) rfl rfl ?_)
    refine Rg_op rfl (op_move (v := (Value.bool false)) rfl ?_)
    iterate 3 refine Rg_opx rfl (asB_ne rfl rfl) rfl ?_
    refine Rg_op rfl (op_pick_f (v := (Value.bool false)) rfl rfl ?_)
    refine Rg_op rfl (op_assign (v := (Value.bool false)) rfl ?_)
    refine Rg_nil ?_
    exact hK283 _ _ ⟨false, _, rfl, ⟨(by repeat (first | with_reducible exact Out.refl _ _ | refine Out.upd ?_ rfl | refine Out.updL ?_ rfl | refine Out.mix' ?_ rfl | exact Out.refl _ _)), rfl, rfl, trivial⟩, ch289, hs278, hm⟩
  ·
   replace hm := bif_f hm hg290
   iterate 2 refine Rg_opx rfl (asB_ne rfl rfl) rfl ?_
   refine Rg_op rfl (op_pick_f (v := (Value.bool false)) rfl rfl ?_)
   refine Rg_op rfl (op_move (v := (Value.bool false)) rfl ?_)
   iterate 4 refine Rg_opx rfl (asB_ne rfl rfl) rfl ?_
   refine Rg_op rfl (op_pick_f (v := (Value.bool false)) rfl rfl ?_)
   refine Rg_op rfl (op_move (v := (Value.bool false)) rfl ?_)
   iterate 3 refine Rg_opx rfl (asB_ne rfl rfl) rfl ?_
   refine Rg_op rfl (op_pick_f (v := (Value.bool false)) rfl rfl ?_)
   refine Rg_op rfl (op_move (v := (Value.bool false)) rfl ?_)
   iterate 2 refine Rg_opx rfl (asB_ne rfl rfl) rfl ?_
   refine Rg_op rfl (op_pick_f (v := (Value.bool false)) rfl rfl ?_)
   refine Rg_op rfl (op_move (v := (Value.bool false)) rfl ?_)
   iterate 2 refine Rg_opx rfl (asB_ne rfl rfl) rfl ?_
   refine Rg_op rfl (op_pick_f (v := (Value.bool false)) rfl rfl ?_)
   refine Rg_op rfl (op_move (v := (Value.bool false)) rfl ?_)
   iterate 2 refine Rg_opx rfl (asB_ne rfl rfl) rfl ?_
   refine Rg_op rfl (op_pick_f (v := (Value.bool false)) rfl rfl ?_)
   refine Rg_op rfl (op_move (v := (Value.bool false)) rfl ?_)
   iterate 3 refine Rg_opx rfl (asB_ne rfl rfl) rfl ?_
   refine Rg_op rfl (op_pick_f (v := (Value.bool false)) rfl rfl ?_)
   refine Rg_op rfl (op_move (v := (Value.bool false)) rfl ?_)
   iterate 2 refine Rg_opx rfl (asB_ne rfl rfl) rfl ?_
   refine Rg_op rfl (op_pick_f (v := (Value.bool false)) rfl rfl ?_)
   refine Rg_op rfl (op_move (v := (Value.bool false)) rfl ?_)
   iterate 4 refine Rg_opx rfl (asB_ne rfl rfl) rfl ?_
   refine Rg_op rfl (op_pick_f (v := (Value.bool false)) rfl rfl ?_)
   refine Rg_op rfl (op_move (v := (Value.bool false)) rfl ?_)
   iterate 6 refine Rg_opx rfl (asB_ne rfl rfl) rfl ?_
   refine Rg_op rfl (op_pick_f (v := (Value.bool false)) rfl rfl ?_)
   refine Rg_op rfl (op_move (v := (Value.bool false)) rfl ?_)
   iterate 2 refine Rg_opx rfl (asB_ne rfl rfl) rfl ?_
   refine Rg_op rfl (op_pick_f (v := (Value.bool false)) rfl rfl ?_)
   refine Rg_op rfl (op_move (v := (Value.bool false)) rfl ?_)
   iterate 3 refine Rg_opx rfl (asB_ne rfl rfl) rfl ?_
   refine Rg_op rfl (op_pick_f (v := (Value.bool false)) rfl rfl ?_)
   refine Rg_op rfl (op_assign (v := (Value.bool false)) rfl ?_)
   refine Rg_nil ?_
   exact hK283 _ _ ⟨false, _, rfl, ⟨(by repeat (first | with_reducible exact Out.refl _ _ | refine Out.upd ?_ rfl | refine Out.updL ?_ rfl | refine Out.mix' ?_ rfl | exact Out.refl _ _)), rfl, rfl, trivial⟩, ch289, hs278, hm⟩

end Go.Fx



set_option linter.unusedVariables false
set_option linter.unusedSimpArgs false
set_option maxRecDepth 100000
set_option maxHeartbeats 0
namespace Go.Fx
open Go Go.RowKit Go.Proofs
def m29_overflightlaw45_few_B0 (d : XDisk) (records : List (List UInt8)) (sf10 : Int → Int → Option Bool) (n_1 : Int) (v_1 : Int) : Option Bool :=
 bif (decide (v_1 < (records.length : Int))) then
  ck ((0 : Int) ≤ v_1 ∧ v_1 < (records.length : Int)) <|
  sf10 (IntKind.wrap .i64 (n_1 + (IntKind.wrap .i64 (1 + ((records.getD v_1.toNat default).length : Int))))) (IntKind.wrap .i64 (v_1 + 1))
 else
  bif (decide ((d.sectors.length : Int) ≤ 40)) then
   bif (decide ((d.pending.length : Int) ≤ 40)) then
    some (decide (n_1 ≤ 4000))
   else
    some false
  else
   some false

def m29_overflightlaw45_few (d : XDisk) (records : List (List UInt8)) : Option Bool :=
 loop2 (m29_overflightlaw45_few_B0 d records) (((records.length : Int) - 0).toNat + 1) 0 0

theorem c29_overflightlaw45_few {w : World} {O : List Nat} {d : XDisk} {records : List (List UInt8)} {a_d_sectors : Option Addr} {c_d_sectors : Nat} {a_d_pending : Option Addr} {c_d_pending : Nat} {a_records : Option Addr} {c_records : Nat} (hO : ∀ k ∈ O, k < w.heap.size) (f_d_sectors : SlR (rSl rU8) w O a_d_sectors c_d_sectors d.sectors) (f_d_pending : SlR rXWrite w O a_d_pending c_d_pending d.pending) (r_d_left : InK .i64 d.left) (f_records : SlR (rSl rU8) w O a_records c_records records) {x : Bool} (hm : m29_overflightlaw45_few d records = some x) :
  Ok Try.prog 29 [(Value.agg [(Value.slice a_d_sectors d.sectors.length c_d_sectors), (Value.slice a_d_pending d.pending.length c_d_pending), (Value.int .i64 d.left), (Value.bool d.stopped)].toArray), (Value.slice a_records records.length c_records)] w O vB x := by
 unfold m29_overflightlaw45_few at hm
 refine Fn_of_Wp (n := 34) (xs := [.tmp 4]) Try.func29 rfl Try.ntmps29 Try.results29 rfl ?_
 have hs := St.start hO
 refine Wp_seq ?_
 refine Wp_region ?_
 refine Rg_op rfl (op_box (cs := [(Value.slice a_d_sectors d.sectors.length c_d_sectors), (Value.slice a_d_pending d.pending.length c_d_pending), (Value.int .i64 d.left), (Value.bool d.stopped)]) hs rfl rfl ?_)
 intro b1 w2 _ p3 hs4
 replace f_d_sectors := f_d_sectors.step p3; replace f_d_pending := f_d_pending.step p3; replace f_records := f_records.step p3; clear p3
 refine Rg_op rfl (op_assign (v := (Value.bool false)) rfl ?_)
 refine Rg_nil ?_
 refine Wp_seq ?_
 refine Wp_region ?_
 refine Rg_op rfl (op_assign (v := (Value.int .i64 0)) rfl ?_)
 refine Rg_nil ?_
 refine Wp_seq ?_
 refine Wp_seq ?_
 refine Wp_region ?_
 refine Rg_op rfl (op_move (v := (Value.slice a_records records.length c_records)) rfl ?_)
 refine Rg_op rfl (op_len Try.underlying22 rfl ?_)
 have rl6 := inK_len f_records
 refine Rg_op rfl (op_move (v := (Value.int .i64 0)) rfl ?_)
 refine Rg_nil ?_
 refine Wp_block ?_
 refine Wp_reset [] [(2, (Value.pointer (some ⟨b1, 0, none⟩))), (5, (Value.int .i64 0)), (8, (Value.slice a_records records.length c_records)), (9, (Value.int .i64 (records.length : Int))), (10, (Value.int .i64 0))] rfl ⟨rfl, rfl, rfl, rfl, rfl, trivial⟩ fun ξ9 => ?_
 refine Wp_loopM [5, 7, 10, 11, 12, 13, 14, 15, 16, 17, 18, 19] (fun m fr w' => ∃ (n_1 : Int) (v_1 : Int) (Ebs : Ents), Ebs = [(some b1, Obj.cells [(Value.slice a_d_sectors d.sectors.length c_d_sectors), (Value.slice a_d_pending d.pending.length c_d_pending), (Value.int .i64 d.left), (Value.bool d.stopped)].toArray 25)] ∧ fr [] [(5, (Value.int .i64 n_1)), (10, (Value.int .i64 v_1))] ∧ Step (ks [(some b1, Obj.cells [(Value.slice a_d_sectors d.sectors.length c_d_sectors), (Value.slice a_d_pending d.pending.length c_d_pending), (Value.int .i64 d.left), (Value.bool d.stopped)].toArray 25)] O) w2 (ks Ebs O) w' ∧ St ⟨w, [], []⟩ O w' Ebs ∧ InK .i64 n_1 ∧ InK .i64 v_1 ∧ loop2 (m29_overflightlaw45_few_B0 d records) m n_1 v_1 = some x) (((records.length : Int) - 0).toNat + 1) ⟨0, 0, _, rfl, ⟨Out.refl _ _, rfl, rfl, rfl, trivial⟩, Step.refl _ _, hs4, (show InK .i64 0 from by decide), (show InK .i64 0 from by decide), hm⟩ ?_ ?_
 · rintro _ _ ⟨_, _, _, _, _, _, _, _, _, hm⟩; exact loop2_z hm
 ·
  rintro m13 K12 hK12 ρ18 w14 ⟨n_1, v_1, Ebs, hEbs, hfr17, hst16, hs15, r_y7, r_y8, hm⟩
  obtain ⟨sf10, hsf11, hm⟩ := loop2_s hm; unfold m29_overflightlaw45_few_B0 at hm
  subst hEbs; rw [hfr17.eq]; clear hfr17
  replace f_d_sectors := f_d_sectors.step hst16; replace f_d_pending := f_d_pending.step hst16; replace f_records := f_records.step hst16
  have ch19 := hst16
  refine Wp_seq ?_
  refine Wp_region ?_
  refine Rg_op rfl (op_lss rfl rfl ?_)
  refine Rg_nil ?_
  refine Wp_seq ?_
  refine Wp_cond rfl (fun hc20 => ?_) (fun hc20 => ?_)
  ·
   replace hm := bif_t hm hc20
   refine Wp_skip ?_
   refine Wp_seq ?_
   refine Wp_block ?_
   refine Wp_seq ?_
   refine Wp_region ?_
   replace hm := ck_some hm; obtain ⟨hc21, hm⟩ := hm
   refine Rg_op rfl (op_indexAddr (q := (rSl rU8)) ty22 ty41 rfl rfl f_records rfl hc21.1 hc21.2 ?_)
   intro p22 f23
   refine Rg_op rfl (op_loadP ty41 rfl f23 rfl ?_)
   intro v24 h25
   obtain ⟨a_y26, c_y26, rfl, f_y26⟩ := un_sl h25
   refine Rg_op rfl (op_assign (v := (Value.slice a_y26 (records.getD v_1.toNat default).length c_y26)) rfl ?_)
   refine Rg_nil ?_
   clear f23
   refine Wp_region ?_
   refine Rg_op rfl (op_move (v := (Value.int .i64 n_1)) rfl ?_)
   refine Rg_op rfl (op_move (v := (Value.slice a_y26 (records.getD v_1.toNat default).length c_y26)) rfl ?_)
   refine Rg_op rfl (op_len Try.underlying41 rfl ?_)
   have rl27 := inK_len f_y26
   refine Rg_op rfl (op_addw rfl rfl ?_)
   refine Rg_op rfl (op_addw rfl rfl ?_)
   refine Rg_op rfl (op_assign (v := (Value.int .i64 (IntKind.wrap .i64 (n_1 + (IntKind.wrap .i64 (1 + ((records.getD v_1.toNat default).length : Int))))))) rfl ?_)
   refine Rg_nil ?_
   clear f_y26
   refine Wp_region ?_
   refine Rg_op rfl (op_addw rfl rfl ?_)
   refine Rg_op rfl (op_move (v := (Value.int .i64 (IntKind.wrap .i64 (v_1 + 1)))) rfl ?_)
   refine Rg_nil ?_
   exact hK12 _ _ ⟨(IntKind.wrap .i64 (n_1 + (IntKind.wrap .i64 (1 + ((records.getD v_1.toNat default).length : Int))))), (IntKind.wrap .i64 (v_1 + 1)), _, rfl, ⟨(by repeat (first | with_reducible exact Out.refl _ _ | refine Out.upd ?_ rfl | refine Out.updL ?_ rfl | refine Out.mix' ?_ rfl | exact Out.refl _ _)), rfl, rfl, rfl, trivial⟩, ch19, hs15, (inK_wrap .i64 _), (inK_wrap .i64 _), jnE2 hsf11 hm⟩
  ·
   replace hm := bif_f hm hc20
   refine Wp_exit ?_
   refine Wp_seq ?_
   clear f_records
   refine Wp_region ?_
   refine Rg_op rfl (op_fieldAddr ty25 rfl ty22 (by decide) rfl (rfl : _ = (⟨_, 0, none⟩ : Addr)) ?_)
   refine Rg_op rfl (op_load (cs := [(Value.slice a_d_sectors d.sectors.length c_d_sectors), (Value.slice a_d_pending d.pending.length c_d_pending), (Value.int .i64 d.left), (Value.bool d.stopped)]) (i := 0) ty22 hs15 rfl rfl rfl ?_)
   refine Rg_op rfl (op_len Try.underlying22 rfl ?_)
   have rl28 := inK_len f_d_sectors
   refine Rg_op rfl (op_leq rfl rfl ?_)
   refine Rg_op rfl (op_move (v := (Value.bool (decide ((d.sectors.length : Int) ≤ 40)))) rfl ?_)
   refine Rg_case (fun hg29 => ?_) (fun hg29 => ?_)
   ·
    replace hm := bif_t hm hg29
    refine Rg_opg rfl rfl rfl (op_fieldAddr ty25 rfl ty23 (by decide) rfl (rfl : _ = (⟨_, 1, none⟩ : Addr)) ?_)
    refine Rg_opg rfl rfl rfl (op_load (cs := [(Value.slice a_d_sectors d.sectors.length c_d_sectors), (Value.slice a_d_pending d.pending.length c_d_pending), (Value.int .i64 d.left), (Value.bool d.stopped)]) (i := 0) ty23 hs15 rfl rfl rfl ?_)
    refine Rg_opg rfl rfl rfl (op_len Try.underlying23 rfl ?_)
    have rl30 := inK_len f_d_pending
    refine Rg_opg rfl rfl rfl (op_leq rfl rfl ?_)
    refine Rg_op rfl (op_pick_t (v := (Value.bool (decide ((d.pending.length : Int) ≤ 40)))) rfl rfl ?_)
    refine Rg_op rfl (op_move (v := (Value.bool (decide ((d.pending.length : Int) ≤ 40)))) rfl ?_)
    refine Rg_case (fun hg31 => ?_) (fun hg31 => ?_)
    ·
     replace hm := bif_t hm hg31
     refine Rg_opg rfl rfl rfl (op_move (v := (Value.int .i64 n_1)) rfl ?_)
     refine Rg_opg rfl rfl rfl (op_leq rfl rfl ?_)
     refine Rg_op rfl (op_pick_t (v := (Value.bool (decide (n_1 ≤ 4000)))) rfl rfl ?_)
     refine Rg_op rfl (op_assign (v := (Value.bool (decide (n_1 ≤ 4000)))) rfl ?_)
     refine Rg_nil ?_
     refine Wp_ret ?_
     have hz := step_all hs15
     replace f_d_sectors := f_d_sectors.step hz; replace f_d_pending := f_d_pending.step hz
     refine ⟨_, (show Closes [] _ _ from rfl), [(Value.bool (decide (n_1 ≤ 4000)))], ⟨rfl, trivial⟩, hs15.ext, ?_⟩
     exact Vr.eq (a := vB) (x := (decide (n_1 ≤ 4000))) rfl (Option.some.inj hm)
    ·
     replace hm := bif_f hm hg31
     iterate 2 refine Rg_opx rfl (asB_ne rfl rfl) rfl ?_
     refine Rg_op rfl (op_pick_f (v := (Value.bool false)) rfl rfl ?_)
     refine Rg_op rfl (op_assign (v := (Value.bool false)) rfl ?_)
     refine Rg_nil ?_
     refine Wp_ret ?_
     have hz := step_all hs15
     replace f_d_sectors := f_d_sectors.step hz; replace f_d_pending := f_d_pending.step hz
     refine ⟨_, (show Closes [] _ _ from rfl), [(Value.bool false)], ⟨rfl, trivial⟩, hs15.ext, ?_⟩
     exact Vr.eq (a := vB) (x := false) rfl (Option.some.inj hm)
   ·
    replace hm := bif_f hm hg29
    iterate 4 refine Rg_opx rfl (asB_ne rfl rfl) rfl ?_
    refine Rg_op rfl (op_pick_f (v := (Value.bool false)) rfl rfl ?_)
    refine Rg_op rfl (op_move (v := (Value.bool false)) rfl ?_)
    iterate 2 refine Rg_opx rfl (asB_ne rfl rfl) rfl ?_
    refine Rg_op rfl (op_pick_f (v := (Value.bool false)) rfl rfl ?_)
    refine Rg_op rfl (op_assign (v := (Value.bool false)) rfl ?_)
    refine Rg_nil ?_
    refine Wp_ret ?_
    have hz := step_all hs15
    replace f_d_sectors := f_d_sectors.step hz; replace f_d_pending := f_d_pending.step hz
    refine ⟨_, (show Closes [] _ _ from rfl), [(Value.bool false)], ⟨rfl, trivial⟩, hs15.ext, ?_⟩
    exact Vr.eq (a := vB) (x := false) rfl (Option.some.inj hm)

end Go.Fx



set_option linter.unusedVariables false
set_option linter.unusedSimpArgs false
set_option maxRecDepth 100000
set_option maxHeartbeats 0
namespace Go.Fx
open Go Go.RowKit Go.Proofs
def m37_overflightref45_SameRecords_B0 (a : List (List UInt8)) (b : List (List UInt8)) (sf6 : Int → Option Bool) (i_1 : Int) : Option Bool :=
 bif (decide (i_1 < (a.length : Int))) then
  ck ((0 : Int) ≤ i_1 ∧ i_1 < (a.length : Int)) <|
  ck ((0 : Int) ≤ i_1 ∧ i_1 < (b.length : Int)) <|
  bif (decide ((a.getD i_1.toNat default) ≠ (b.getD i_1.toNat default))) then
   some false
  else
   sf6 (IntKind.wrap .i64 (i_1 + 1))
 else
  some true

def m37_overflightref45_SameRecords (a : List (List UInt8)) (b : List (List UInt8)) : Option Bool :=
 bif (decide ((a.length : Int) ≠ (b.length : Int))) then
  some false
 else
  loop1 (m37_overflightref45_SameRecords_B0 a b) (((a.length : Int) - 0).toNat + 1) 0

theorem c37_overflightref45_SameRecords {w : World} {O : List Nat} {a : List (List UInt8)} {b : List (List UInt8)} {a_a : Option Addr} {c_a : Nat} {a_b : Option Addr} {c_b : Nat} (hO : ∀ k ∈ O, k < w.heap.size) (f_a : SlR (rSl rU8) w O a_a c_a a) (f_b : SlR (rSl rU8) w O a_b c_b b) {x : Bool} (hm : m37_overflightref45_SameRecords a b = some x) :
  Ok Try.prog 37 [(Value.slice a_a a.length c_a), (Value.slice a_b b.length c_b)] w O vB x := by
 unfold m37_overflightref45_SameRecords at hm
 refine Fn_of_Wp (n := 28) (xs := [.tmp 4]) Try.func37 rfl Try.ntmps37 Try.results37 rfl ?_
 have hs := St.start hO
 refine Wp_seq ?_
 refine Wp_region ?_
 refine Rg_op rfl (op_assign (v := (Value.bool false)) rfl ?_)
 refine Rg_nil ?_
 refine Wp_seq ?_
 refine Wp_seq ?_
 refine Wp_region ?_
 refine Rg_op rfl (op_move (v := (Value.slice a_a a.length c_a)) rfl ?_)
 refine Rg_op rfl (op_len Try.underlying22 rfl ?_)
 have rl1 := inK_len f_a
 refine Rg_op rfl (op_move (v := (Value.slice a_b b.length c_b)) rfl ?_)
 refine Rg_op rfl (op_len Try.underlying22 rfl ?_)
 have rl2 := inK_len f_b
 refine Rg_op rfl (op_neq rfl rfl ?_)
 refine Rg_nil ?_
 refine Wp_cond rfl (fun hc3 => ?_) (fun hc3 => ?_)
 ·
  replace hm := bif_t hm hc3
  refine Wp_seq ?_
  clear f_a f_b
  refine Wp_region ?_
  refine Rg_op rfl (op_assign (v := (Value.bool false)) rfl ?_)
  refine Rg_nil ?_
  refine Wp_ret ?_
  have hz := step_all hs
  refine ⟨_, (show Closes [] _ _ from rfl), [(Value.bool false)], ⟨rfl, trivial⟩, hs.ext, ?_⟩
  exact Vr.eq (a := vB) (x := false) rfl (Option.some.inj hm)
 ·
  replace hm := bif_f hm hc3
  refine Wp_skip ?_
  refine Wp_seq ?_
  refine Wp_seq ?_
  refine Wp_region ?_
  refine Rg_op rfl (op_assign (v := (Value.int .i64 0)) rfl ?_)
  refine Rg_nil ?_
  refine Wp_block ?_
  refine Wp_reset [] [(0, (Value.slice a_a a.length c_a)), (1, (Value.slice a_b b.length c_b)), (5, (Value.int .i64 0))] rfl ⟨rfl, rfl, rfl, trivial⟩ fun ξ5 => ?_
  refine Wp_loopM [4, 5, 11, 12, 13, 14, 15, 16, 17, 18, 19, 20, 21, 22, 23, 24, 25, 26, 27] (fun m fr w' => ∃ (i_1 : Int) (Ebs : Ents), Ebs = [] ∧ fr [] [(5, (Value.int .i64 i_1))] ∧ Step (ks [] O) w (ks Ebs O) w' ∧ St ⟨w, [], []⟩ O w' Ebs ∧ InK .i64 i_1 ∧ loop1 (m37_overflightref45_SameRecords_B0 a b) m i_1 = some x) (((a.length : Int) - 0).toNat + 1) ⟨0, _, rfl, ⟨Out.refl _ _, rfl, rfl, trivial⟩, Step.refl _ _, hs, (show InK .i64 0 from by decide), hm⟩ ?_ ?_
  · rintro _ _ ⟨_, _, _, _, _, _, _, hm⟩; exact loop1_z hm
  ·
   rintro m9 K8 hK8 ρ14 w10 ⟨i_1, Ebs, hEbs, hfr13, hst12, hs11, r_y4, hm⟩
   obtain ⟨sf6, hsf7, hm⟩ := loop1_s hm; unfold m37_overflightref45_SameRecords_B0 at hm
   subst hEbs; rw [hfr13.eq]; clear hfr13
   replace f_a := f_a.step hst12; replace f_b := f_b.step hst12
   have ch15 := hst12
   refine Wp_seq ?_
   refine Wp_seq ?_
   refine Wp_region ?_
   refine Rg_op rfl (op_move (v := (Value.int .i64 i_1)) rfl ?_)
   refine Rg_op rfl (op_move (v := (Value.slice a_a a.length c_a)) rfl ?_)
   refine Rg_op rfl (op_len Try.underlying22 rfl ?_)
   have rl16 := inK_len f_a
   refine Rg_op rfl (op_lss rfl rfl ?_)
   refine Rg_nil ?_
   refine Wp_cond rfl (fun hc17 => ?_) (fun hc17 => ?_)
   ·
    replace hm := bif_t hm hc17
    refine Wp_skip ?_
    refine Wp_seq ?_
    refine Wp_block ?_
    refine Wp_seq ?_
    refine Wp_drawR (g0 := []) (m := 10) (fl := []) (TS_inv hs11) rfl (.inl rfl) rfl (by decide +kernel) ?_  -- 6
    refine Dw_eq (Value.slice a_a a.length c_a) (fun ρ18 w19 g hle hi ht => ?_) ?_
    ·
     obtain ⟨-, hst, -⟩ := hle
     refine StepOp_plain (op_move (v := (Value.slice a_a a.length c_a)) (ht 0 rfl) ?_)
     exact Goes.same hi rfl
    refine Dw_eq (Value.int .i64 i_1) (fun ρ21 w22 g hle hi ht => ?_) ?_
    ·
     obtain ⟨-, hst, -⟩ := hle
     refine StepOp_plain (op_move (v := (Value.int .i64 i_1)) (ht 5 rfl) ?_)
     exact Goes.same hi rfl
    replace hm := ck_some hm; obtain ⟨hc27, hm⟩ := hm
    refine Dw_op (VP O [] (rSl rU8) (a.getD i_1.toNat default)) (VP.stab _ _) (fun ρ24 w25 g hle hi ht => ?_) ?_
    ·
     obtain ⟨-, hst, -⟩ := hle
     replace f_a := f_a.step hst
     refine StepOp_plain (op_indexAddr (q := (rSl rU8)) ty22 ty41 (ht 17 rfl) (ht 18 rfl) f_a rfl hc27.1 hc27.2 ?_)
     intro p28 f29
     exact Goes.same hi ⟨_, rfl, f29⟩
    refine Dw_op (VD O [] (vC (rSl rU8)) (a.getD i_1.toNat default)) (VD.stab _ _) (fun ρ30 w31 g hle hi ht => ?_) ?_
    ·
     obtain ⟨-, hst, -⟩ := hle
     obtain ⟨p33, q34, f35⟩ := ht 19 rfl
     refine StepOp_plain (op_loadP ty41 q34 f35 rfl ?_)
     intro v36 h37
     obtain ⟨a_y38, c_y38, rfl, f_y38⟩ := un_sl h37
     exact Goes.same hi (show Vr.vd (vC (rSl rU8)) _ _ _ _ from (mkC (mk_sl f_y38)))
    refine Dw_eq (Value.string (bs (a.getD i_1.toNat default))) (fun ρ39 w40 g hle hi ht => ?_) ?_
    ·
     obtain ⟨-, hst, -⟩ := hle
     have h42 : Vr.vd (vC (rSl rU8)) _ _ _ _ := ht 20 rfl
     obtain ⟨a_y44, c_y44, q43, f_y44⟩ := un_sl h42
     refine StepOp_plain (op_bytesToString ty41 Try.underlying5 Try.underlying9 q43 f_y44 ?_)
     exact Goes.same hi rfl
    refine Dw_eq (Value.slice a_b b.length c_b) (fun ρ45 w46 g hle hi ht => ?_) ?_
    ·
     obtain ⟨-, hst, -⟩ := hle
     refine StepOp_plain (op_move (v := (Value.slice a_b b.length c_b)) (ht 1 rfl) ?_)
     exact Goes.same hi rfl
    refine Dw_eq (Value.int .i64 i_1) (fun ρ48 w49 g hle hi ht => ?_) ?_
    ·
     obtain ⟨-, hst, -⟩ := hle
     refine StepOp_plain (op_move (v := (Value.int .i64 i_1)) (ht 5 rfl) ?_)
     exact Goes.same hi rfl
    replace hm := ck_some hm; obtain ⟨hc54, hm⟩ := hm
    refine Dw_op (VP O [] (rSl rU8) (b.getD i_1.toNat default)) (VP.stab _ _) (fun ρ51 w52 g hle hi ht => ?_) ?_
    ·
     obtain ⟨-, hst, -⟩ := hle
     replace f_b := f_b.step hst
     refine StepOp_plain (op_indexAddr (q := (rSl rU8)) ty22 ty41 (ht 22 rfl) (ht 23 rfl) f_b rfl hc54.1 hc54.2 ?_)
     intro p55 f56
     exact Goes.same hi ⟨_, rfl, f56⟩
    refine Dw_op (VD O [] (vC (rSl rU8)) (b.getD i_1.toNat default)) (VD.stab _ _) (fun ρ57 w58 g hle hi ht => ?_) ?_
    ·
     obtain ⟨-, hst, -⟩ := hle
     obtain ⟨p60, q61, f62⟩ := ht 24 rfl
     refine StepOp_plain (op_loadP ty41 q61 f62 rfl ?_)
     intro v63 h64
     obtain ⟨a_y65, c_y65, rfl, f_y65⟩ := un_sl h64
     exact Goes.same hi (show Vr.vd (vC (rSl rU8)) _ _ _ _ from (mkC (mk_sl f_y65)))
    refine Dw_eq (Value.string (bs (b.getD i_1.toNat default))) (fun ρ66 w67 g hle hi ht => ?_) ?_
    ·
     obtain ⟨-, hst, -⟩ := hle
     have h69 : Vr.vd (vC (rSl rU8)) _ _ _ _ := ht 25 rfl
     obtain ⟨a_y71, c_y71, q70, f_y71⟩ := un_sl h69
     refine StepOp_plain (op_bytesToString ty41 Try.underlying5 Try.underlying9 q70 f_y71 ?_)
     exact Goes.same hi rfl
    refine Dw_nil fun w76 g77 hl78 hi79 => ?_
    obtain ⟨-, hst80, -⟩ := hl78
    obtain ⟨hs82, p81⟩ := Step.nx hi79
    rintro _ rfl
    rintro v83 h84
    replace h84 : Vr.vd (vC (rSl rU8)) _ _ _ _ := h84
    obtain ⟨a_y85, c_y85, rfl, f_y85⟩ := un_sl h84
    rintro _ ⟨p86, rfl, f87⟩
    rintro _ rfl
    rintro _ rfl
    rintro _ rfl
    rintro v88 h89
    replace h89 : Vr.vd (vC (rSl rU8)) _ _ _ _ := h89
    obtain ⟨a_y90, c_y90, rfl, f_y90⟩ := un_sl h89
    rintro _ ⟨p91, rfl, f92⟩
    rintro _ rfl
    rintro _ rfl
    have p93 : Step (ks [] O) w10 (ks [] O) w76 := hst80.trans p81
    replace f_y85 := f_y85.step p81; replace f87 := f87.step p81; replace f_y90 := f_y90.step p81; replace f92 := f92.step p81; replace f_a := f_a.step p93; replace f_b := f_b.step p93; replace ch15 := ch15.trans p93; clear p93 hs11
    refine Rg_op rfl (op_neqs (a := (a.getD i_1.toNat default)) (b := (b.getD i_1.toNat default)) rfl rfl ?_)
    refine Rg_nil ?_
    refine Wp_cond rfl (fun hc94 => ?_) (fun hc94 => ?_)
    ·
     replace hm := bif_t hm hc94
     refine Wp_seq ?_
     clear f_a f_b f_y85 f87 f_y90 f92
     refine Wp_region ?_
     refine Rg_op rfl (op_assign (v := (Value.bool false)) rfl ?_)
     refine Rg_nil ?_
     refine Wp_ret ?_
     have hz := step_all hs82
     refine ⟨_, (show Closes [] _ _ from rfl), [(Value.bool false)], ⟨rfl, trivial⟩, hs82.ext, ?_⟩
     exact Vr.eq (a := vB) (x := false) rfl (Option.some.inj hm)
    ·
     replace hm := bif_f hm hc94
     refine Wp_skip ?_
     clear f_y85 f87 f_y90 f92
     refine Wp_region ?_
     refine Rg_op rfl (op_move (v := (Value.int .i64 i_1)) rfl ?_)
     refine Rg_op rfl (op_addw rfl rfl ?_)
     refine Rg_op rfl (op_assign (v := (Value.int .i64 (IntKind.wrap .i64 (i_1 + 1)))) rfl ?_)
     refine Rg_nil ?_
     exact hK8 _ _ ⟨(IntKind.wrap .i64 (i_1 + 1)), _, rfl, ⟨(by repeat (first | with_reducible exact Out.refl _ _ | refine Out.upd ?_ rfl | refine Out.updL ?_ rfl | refine Out.mix' ?_ rfl | exact Out.refl _ _)), rfl, rfl, trivial⟩, ch15, hs82, (inK_wrap .i64 _), jnE1 hsf7 hm⟩
   ·
    replace hm := bif_f hm hc17
    refine Wp_exit ?_
    refine Wp_seq ?_
    clear f_a f_b
    refine Wp_region ?_
    refine Rg_op rfl (op_assign (v := (Value.bool true)) rfl ?_)
    refine Rg_nil ?_
    refine Wp_ret ?_
    have hz := step_all hs11
    refine ⟨_, (show Closes [] _ _ from rfl), [(Value.bool true)], ⟨rfl, trivial⟩, hs11.ext, ?_⟩
    exact Vr.eq (a := vB) (x := true) rfl (Option.some.inj hm)

end Go.Fx



set_option linter.unusedVariables false
set_option linter.unusedSimpArgs false
set_option maxRecDepth 100000
set_option maxHeartbeats 0
namespace Go.Fx
open Go Go.RowKit Go.Proofs
def m9_overflightlaw45_JournalRoom (l : XJournal) (b : List UInt8) : Option Bool :=
 (m28_overflightlaw45_sane).bind fun sane_1 =>
 bif (!sane_1) then
  some false
 else
  jn (fun (v_1 : Bool) =>
   bif v_1 then
    some true
   else
    (m30_journal_Append l b).bind fun append_1 =>
    (m34_journal_Room l).bind fun room_1 =>
    jn (fun (v_2 : Bool) =>
     bif v_2 then
      some false
     else
      bif (decide (append_1.2 ≠ 0)) then
       bif (decide (append_1.2 = 2)) then
        some (decide ((append_1.1.records.length : Int) = 0))
       else
        some false
      else
       jn (fun (v_3 : Bool) =>
        some v_3)
       (fun k80 =>
        (m32_journal_Check append_1.1).bind fun check_1 =>
        bif (decide (check_1 = 0)) then
         bif (decide (append_1.1.many = l.many)) then
          bif (decide (append_1.1.synced = l.synced)) then
           bif (decide ((append_1.1.records.length : Int) = (IntKind.wrap .i64 ((l.records.length : Int) + 1)))) then
            ck ((0 : Int) ≤ (l.records.length : Int) ∧ (l.records.length : Int) ≤ (append_1.1.records.length : Int)) <|
            (m37_overflightref45_SameRecords ((append_1.1.records.drop 0).take (l.records.length - 0)) l.records).bind fun samerecords_1 =>
            bif samerecords_1 then
             ck ((0 : Int) ≤ (l.records.length : Int) ∧ (l.records.length : Int) < (append_1.1.records.length : Int)) <|
             bif (decide ((append_1.1.records.getD l.records.length default) = b)) then
              (m34_journal_Room append_1.1).bind fun room_2 =>
              k80 (decide (room_2 < room_1))
             else
              k80 false
            else
             k80 false
           else
            k80 false
          else
           k80 false
         else
          k80 false
        else
         k80 false))
    (fun k61 =>
     bif (decide (0 < room_1)) then
      k61 (!((decide (append_1.2 = 0)) == (decide ((b.length : Int) ≤ room_1))))
     else
      k61 (!((decide (append_1.2 = 0)) == false))))
  (fun k19 =>
   (m29_overflightlaw45_few (⟨([] : List (List UInt8)), ([] : List XWrite), 0, false⟩ : XDisk) l.records).bind fun few_1 =>
   bif (!few_1) then
    k19 true
   else
    bif (decide (70000 < (b.length : Int))) then
     k19 true
    else
     (m32_journal_Check l).bind fun check_2 =>
     k19 (decide (check_2 ≠ 0)))

theorem c9_overflightlaw45_JournalRoom {w : World} {O : List Nat} {l : XJournal} {b : List UInt8} {a_l_records : Option Addr} {c_l_records : Nat} {a_b : Option Addr} {c_b : Nat} (hO : ∀ k ∈ O, k < w.heap.size) (f_l_records : SlR (rSl rU8) w O a_l_records c_l_records l.records) (r_l_many : InK .i64 l.many) (r_l_synced : InK .i64 l.synced) (f_b : SlR rU8 w O a_b c_b b) {x : Bool} (hm : m9_overflightlaw45_JournalRoom l b = some x) :
  Ok Try.prog 9 [(Value.agg [(Value.slice a_l_records l.records.length c_l_records), (Value.int .i64 l.many), (Value.int .i64 l.synced)].toArray), (Value.slice a_b b.length c_b)] w O vB x := by
 unfold m9_overflightlaw45_JournalRoom at hm
 refine Fn_of_Wp (n := 109) (xs := [.tmp 4]) Try.func9 rfl Try.ntmps9 Try.results9 rfl ?_
 have hs := St.start hO
 refine Wp_seq ?_
 refine Wp_region ?_
 refine Rg_op rfl (op_box (cs := [(Value.slice a_l_records l.records.length c_l_records), (Value.int .i64 l.many), (Value.int .i64 l.synced)]) hs rfl rfl ?_)
 intro b1 w2 _ p3 hs4
 replace f_l_records := f_l_records.step p3; replace f_b := f_b.step p3; clear p3
 refine Rg_op rfl (op_assign (v := (Value.bool false)) rfl ?_)
 refine Rg_nil ?_
 refine Wp_seq ?_
 refine Wp_seq ?_
 refine Wp_region ?_
 replace hm := bd hm; obtain ⟨sane_1, hv6, hm⟩ := hm
 refine Rg_op rfl (op_call Try.call28 (c28_overflightlaw45_sane  hs4.ltw  hv6) rfl ?_)
 rintro v7 w8 ⟨hx9, h10⟩
 have hs11 := hs4.call hx9
 have p12 := Step.ext (O := ks [(some b1, Obj.cells [(Value.slice a_l_records l.records.length c_l_records), (Value.int .i64 l.many), (Value.int .i64 l.synced)].toArray 52)] O) hx9
 clear hx9
 replace f_l_records := f_l_records.step p12; replace f_b := f_b.step p12; clear p12 hs4
 obtain rfl := h10
 refine Rg_op rfl (op_not rfl ?_)
 refine Rg_nil ?_
 refine Wp_cond rfl (fun hc14 => ?_) (fun hc14 => ?_)
 ·
  replace hm := bif_t hm hc14
  refine Wp_seq ?_
  obtain ⟨hs15, p16⟩ := hs11.sub (bs' := []) (.cons _ List.Sublist.slnil)
  clear f_l_records f_b
  clear p16 hs11
  refine Wp_region ?_
  refine Rg_op rfl (op_assign (v := (Value.bool false)) rfl ?_)
  refine Rg_nil ?_
  refine Wp_ret ?_
  have hz := step_all hs15
  refine ⟨_, (show Closes [] _ _ from rfl), [(Value.bool false)], ⟨rfl, trivial⟩, hs15.ext, ?_⟩
  exact Vr.eq (a := vB) (x := false) rfl (Option.some.inj hm)
 ·
  replace hm := bif_f hm hc14
  refine Wp_skip ?_
  refine Wp_seq ?_
  refine Wp_reset [] [(1, (Value.slice a_b b.length c_b)), (2, (Value.pointer (some ⟨b1, 0, none⟩)))] rfl ⟨rfl, rfl, trivial⟩ fun ξ17 => ?_
  replace hm := jn_elim hm; obtain ⟨k19, hk20, hm⟩ := hm
  refine Wp_seqJ [11, 12, 13, 14, 15, 16, 17, 18, 19, 20, 21, 22, 23, 24, 25] (fun fr w' => ∃ (v_1 : Bool) (Ebs : Ents), Ebs = [(some b1, Obj.cells [(Value.slice a_l_records l.records.length c_l_records), (Value.int .i64 l.many), (Value.int .i64 l.synced)].toArray 52)] ∧ fr [] [(25, (Value.bool v_1))] ∧ Step (ks [(some b1, Obj.cells [(Value.slice a_l_records l.records.length c_l_records), (Value.int .i64 l.many), (Value.int .i64 l.synced)].toArray 52)] O) w8 (ks Ebs O) w' ∧ St ⟨w, [], []⟩ O w' Ebs ∧ k19 v_1 = some x) ?_ ?_
  ·
   rintro ρ26 w22 ⟨v_1, Ebs, hEbs, hfr25, hst24, hs23, hm⟩
   replace hm := jnE1 hk20 hm
   subst hEbs; rw [hfr25.eq]; clear hfr25
   replace f_l_records := f_l_records.step hst24; replace f_b := f_b.step hst24; clear hst24 hs11
   refine Wp_cond rfl (fun hc27 => ?_) (fun hc27 => ?_)
   ·
    replace hm := bif_t hm hc27
    refine Wp_seq ?_
    obtain ⟨hs28, p29⟩ := hs23.sub (bs' := []) (.cons _ List.Sublist.slnil)
    clear f_l_records f_b
    clear p29 hs23
    refine Wp_region ?_
    refine Rg_op rfl (op_assign (v := (Value.bool true)) rfl ?_)
    refine Rg_nil ?_
    refine Wp_ret ?_
    have hz := step_all hs28
    refine ⟨_, (show Closes [] _ _ from rfl), [(Value.bool true)], ⟨rfl, trivial⟩, hs28.ext, ?_⟩
    exact Vr.eq (a := vB) (x := true) rfl (Option.some.inj hm)
   ·
    replace hm := bif_f hm hc27
    refine Wp_skip ?_
    refine Wp_seq ?_
    refine Wp_region ?_
    refine Rg_op rfl (op_loadA (cs := [(Value.slice a_l_records l.records.length c_l_records), (Value.int .i64 l.many), (Value.int .i64 l.synced)]) (vs := [(Value.slice a_l_records l.records.length c_l_records), (Value.int .i64 l.many), (Value.int .i64 l.synced)]) (i := 0) ty52 hs23 rfl rfl rfl rfl ?_)
    refine Rg_op rfl (op_move (v := (Value.slice a_b b.length c_b)) rfl ?_)
    replace hm := bd hm; obtain ⟨append_1, hv30, hm⟩ := hm
    refine Rg_op rfl (op_call Try.call30 (c30_journal_Append (l := l) (b := b) hs23.ltw f_l_records r_l_many r_l_synced f_b hv30) rfl ?_)
    rintro v31 w32 ⟨hx33, h34⟩
    have hs35 := hs23.call hx33
    have p36 := Step.ext (O := ks [(some b1, Obj.cells [(Value.slice a_l_records l.records.length c_l_records), (Value.int .i64 l.many), (Value.int .i64 l.synced)].toArray 52)] O) hx33
    clear hx33
    replace f_l_records := f_l_records.step p36; replace f_b := f_b.step p36; clear p36 hs23
    obtain ⟨v37, v38, rfl, h39, h40⟩ := h34
    obtain ⟨_, rfl, ⟨_, _, rfl, ⟨a_y41_records, c_y41_records, rfl, f_y41_records⟩, ⟨_, _, rfl, ⟨rfl, r_y41_many⟩, ⟨rfl, r_y41_synced⟩⟩⟩⟩ := h39
    obtain ⟨rfl, r_y42⟩ := h40
    refine Rg_op rfl (op_move (v := (Value.tuple [(Value.agg [(Value.slice a_y41_records append_1.1.records.length c_y41_records), (Value.int .i64 append_1.1.many), (Value.int .i64 append_1.1.synced)].toArray), (Value.int .i64 append_1.2)].toArray)) rfl ?_)
    refine Rg_op rfl (op_extract (v := (Value.agg [(Value.slice a_y41_records append_1.1.records.length c_y41_records), (Value.int .i64 append_1.1.many), (Value.int .i64 append_1.1.synced)].toArray)) rfl rfl ?_)
    refine Rg_op rfl (op_extract (v := (Value.int .i64 append_1.2)) rfl rfl ?_)
    refine Rg_op rfl (op_alloc ty52 hs35 ?_)
    intro b43 w44 _ p45 hs46
    replace f_l_records := f_l_records.step p45; replace f_b := f_b.step p45; replace f_y41_records := f_y41_records.step p45; clear p45 hs35
    refine Rg_op_ (op_store (cs := [(Value.slice none 0 0), (Value.int .i64 0), (Value.int .i64 0)]) (vs := [(Value.slice a_y41_records append_1.1.records.length c_y41_records), (Value.int .i64 append_1.1.many), (Value.int .i64 append_1.1.synced)]) (cs' := [(Value.slice a_y41_records append_1.1.records.length c_y41_records), (Value.int .i64 append_1.1.many), (Value.int .i64 append_1.1.synced)]) (bs' := [(some b43, Obj.cells [(Value.slice a_y41_records append_1.1.records.length c_y41_records), (Value.int .i64 append_1.1.many), (Value.int .i64 append_1.1.synced)].toArray 52), (some b1, Obj.cells [(Value.slice a_l_records l.records.length c_l_records), (Value.int .i64 l.many), (Value.int .i64 l.synced)].toArray 52)]) (i := 0) ty52 hs46 rfl rfl rfl rfl rfl (le_lit rfl) rfl rfl rfl ?_)
    intro w48 p49 hs50
    replace f_l_records := f_l_records.step p49; replace f_b := f_b.step p49; replace f_y41_records := f_y41_records.step p49; clear p49 hs46
    refine Rg_op rfl (op_assign (v := (Value.int .i64 append_1.2)) rfl ?_)
    refine Rg_nil ?_
    refine Wp_seq ?_
    refine Wp_region ?_
    refine Rg_op rfl (op_loadA (cs := [(Value.slice a_l_records l.records.length c_l_records), (Value.int .i64 l.many), (Value.int .i64 l.synced)]) (vs := [(Value.slice a_l_records l.records.length c_l_records), (Value.int .i64 l.many), (Value.int .i64 l.synced)]) (i := 1) ty52 hs50 rfl rfl rfl rfl ?_)
    replace hm := bd hm; obtain ⟨room_1, hv51, hm⟩ := hm
    refine Rg_op rfl (op_call Try.call34 (c34_journal_Room (l := l) hs50.ltw f_l_records r_l_many r_l_synced hv51) rfl ?_)
    rintro v52 w53 ⟨hx54, h55⟩
    have hs56 := hs50.call hx54
    have p57 := Step.ext (O := ks [(some b43, Obj.cells [(Value.slice a_y41_records append_1.1.records.length c_y41_records), (Value.int .i64 append_1.1.many), (Value.int .i64 append_1.1.synced)].toArray 52), (some b1, Obj.cells [(Value.slice a_l_records l.records.length c_l_records), (Value.int .i64 l.many), (Value.int .i64 l.synced)].toArray 52)] O) hx54
    clear hx54
    replace f_l_records := f_l_records.step p57; replace f_b := f_b.step p57; replace f_y41_records := f_y41_records.step p57; clear p57 hs50
    obtain ⟨rfl, r_y58⟩ := h55
    refine Rg_op rfl (op_assign (v := (Value.int .i64 room_1)) rfl ?_)
    refine Rg_nil ?_
    refine Wp_seq ?_
    refine Wp_reset [] [(1, (Value.slice a_b b.length c_b)), (2, (Value.pointer (some ⟨b1, 0, none⟩))), (5, (Value.pointer (some ⟨b43, 0, none⟩))), (6, (Value.int .i64 append_1.2)), (7, (Value.int .i64 room_1))] rfl ⟨rfl, rfl, rfl, rfl, rfl, trivial⟩ fun ξ59 => ?_
    replace hm := jn_elim hm; obtain ⟨k61, hk62, hm⟩ := hm
    refine Wp_seqJ [34, 35, 36, 37, 38, 39, 40, 41, 42, 43, 44] (fun fr w' => ∃ (v_2 : Bool) (Ebs : Ents), Ebs = [(some b43, Obj.cells [(Value.slice a_y41_records append_1.1.records.length c_y41_records), (Value.int .i64 append_1.1.many), (Value.int .i64 append_1.1.synced)].toArray 52), (some b1, Obj.cells [(Value.slice a_l_records l.records.length c_l_records), (Value.int .i64 l.many), (Value.int .i64 l.synced)].toArray 52)] ∧ fr [] [(44, (Value.bool v_2))] ∧ Step (ks [(some b43, Obj.cells [(Value.slice a_y41_records append_1.1.records.length c_y41_records), (Value.int .i64 append_1.1.many), (Value.int .i64 append_1.1.synced)].toArray 52), (some b1, Obj.cells [(Value.slice a_l_records l.records.length c_l_records), (Value.int .i64 l.many), (Value.int .i64 l.synced)].toArray 52)] O) w53 (ks Ebs O) w' ∧ St ⟨w, [], []⟩ O w' Ebs ∧ k61 v_2 = some x) ?_ ?_
    ·
     rintro ρ68 w64 ⟨v_2, Ebs, hEbs, hfr67, hst66, hs65, hm⟩
     replace hm := jnE1 hk62 hm
     subst hEbs; rw [hfr67.eq]; clear hfr67
     replace f_l_records := f_l_records.step hst66; replace f_b := f_b.step hst66; replace f_y41_records := f_y41_records.step hst66; clear hst66 hs56
     refine Wp_cond rfl (fun hc69 => ?_) (fun hc69 => ?_)
     ·
      replace hm := bif_t hm hc69
      refine Wp_seq ?_
      obtain ⟨hs70, p71⟩ := hs65.sub (bs' := []) (.cons _ (.cons _ List.Sublist.slnil))
      clear f_l_records f_b f_y41_records
      clear p71 hs65
      refine Wp_region ?_
      refine Rg_op rfl (op_assign (v := (Value.bool false)) rfl ?_)
      refine Rg_nil ?_
      refine Wp_ret ?_
      have hz := step_all hs70
      refine ⟨_, (show Closes [] _ _ from rfl), [(Value.bool false)], ⟨rfl, trivial⟩, hs70.ext, ?_⟩
      exact Vr.eq (a := vB) (x := false) rfl (Option.some.inj hm)
     ·
      replace hm := bif_f hm hc69
      refine Wp_skip ?_
      refine Wp_seq ?_
      refine Wp_seq ?_
      refine Wp_region ?_
      refine Rg_op rfl (op_move (v := (Value.int .i64 append_1.2)) rfl ?_)
      refine Rg_op rfl (op_neq rfl rfl ?_)
      refine Rg_nil ?_
      refine Wp_cond rfl (fun hc72 => ?_) (fun hc72 => ?_)
      ·
       replace hm := bif_t hm hc72
       refine Wp_seq ?_
       obtain ⟨hs73, p74⟩ := hs65.sub (bs' := [(some b43, Obj.cells [(Value.slice a_y41_records append_1.1.records.length c_y41_records), (Value.int .i64 append_1.1.many), (Value.int .i64 append_1.1.synced)].toArray 52)]) (.cons_cons _ (.cons _ List.Sublist.slnil))
       clear f_l_records f_b
       replace f_y41_records := f_y41_records.step p74; clear p74 hs65
       refine Wp_region ?_
       refine Rg_op rfl (op_move (v := (Value.int .i64 append_1.2)) rfl ?_)
       refine Rg_op rfl (op_eql rfl rfl ?_)
       refine Rg_op rfl (op_move (v := (Value.bool (decide (append_1.2 = 2)))) rfl ?_)
       refine Rg_case (fun hg75 => ?_) (fun hg75 => ?_)
       ·
        replace hm := bif_t hm hg75
        refine Rg_opg rfl rfl rfl (op_fieldAddr ty52 rfl ty22 (by decide) rfl (rfl : _ = (⟨_, 0, none⟩ : Addr)) ?_)
        refine Rg_opg rfl rfl rfl (op_load (cs := [(Value.slice a_y41_records append_1.1.records.length c_y41_records), (Value.int .i64 append_1.1.many), (Value.int .i64 append_1.1.synced)]) (i := 0) ty22 hs73 rfl rfl rfl ?_)
        refine Rg_opg rfl rfl rfl (op_len Try.underlying22 rfl ?_)
        have rl76 := inK_len f_y41_records
        refine Rg_opg rfl rfl rfl (op_eql rfl rfl ?_)
        refine Rg_op rfl (op_pick_t (v := (Value.bool (decide ((append_1.1.records.length : Int) = 0)))) rfl rfl ?_)
        refine Rg_op rfl (op_assign (v := (Value.bool (decide ((append_1.1.records.length : Int) = 0)))) rfl ?_)
        refine Rg_nil ?_
        refine Wp_ret ?_
        have hz := step_all hs73
        replace f_y41_records := f_y41_records.step hz
        refine ⟨_, (show Closes [] _ _ from rfl), [(Value.bool (decide ((append_1.1.records.length : Int) = 0)))], ⟨rfl, trivial⟩, hs73.ext, ?_⟩
        exact Vr.eq (a := vB) (x := (decide ((append_1.1.records.length : Int) = 0))) rfl (Option.some.inj hm)
       ·
        replace hm := bif_f hm hg75
        iterate 4 refine Rg_opx rfl (asB_ne rfl rfl) rfl ?_
        refine Rg_op rfl (op_pick_f (v := (Value.bool false)) rfl rfl ?_)
        refine Rg_op rfl (op_assign (v := (Value.bool false)) rfl ?_)
        refine Rg_nil ?_
        refine Wp_ret ?_
        have hz := step_all hs73
        replace f_y41_records := f_y41_records.step hz
        refine ⟨_, (show Closes [] _ _ from rfl), [(Value.bool false)], ⟨rfl, trivial⟩, hs73.ext, ?_⟩
        exact Vr.eq (a := vB) (x := false) rfl (Option.some.inj hm)
      ·
       replace hm := bif_f hm hc72
       refine Wp_skip ?_
       refine Wp_seq ?_
       refine Wp_region ?_
       refine Rg_op rfl (op_fieldAddr ty52 rfl ty22 (by decide) rfl (rfl : _ = (⟨_, 0, none⟩ : Addr)) ?_)
       refine Rg_op rfl (op_load (cs := [(Value.slice a_l_records l.records.length c_l_records), (Value.int .i64 l.many), (Value.int .i64 l.synced)]) (i := 1) ty22 hs65 rfl rfl rfl ?_)
       refine Rg_op rfl (op_len Try.underlying22 rfl ?_)
       have rl77 := inK_len f_l_records
       refine Rg_op rfl (op_assign (v := (Value.int .i64 (l.records.length : Int))) rfl ?_)
       refine Rg_nil ?_
       refine Wp_reset [] [(1, (Value.slice a_b b.length c_b)), (2, (Value.pointer (some ⟨b1, 0, none⟩))), (5, (Value.pointer (some ⟨b43, 0, none⟩))), (7, (Value.int .i64 room_1)), (8, (Value.int .i64 (l.records.length : Int)))] rfl ⟨rfl, rfl, rfl, rfl, rfl, trivial⟩ fun ξ78 => ?_
       replace hm := jn_elim hm; obtain ⟨k80, hk81, hm⟩ := hm
       refine Wp_seqJ [4, 58, 59, 60, 61, 62, 63, 64, 65, 66, 67, 68, 69, 70, 71, 72, 73, 74, 75, 76, 77, 78, 79, 80, 81, 82, 83, 84, 85, 86, 87, 88, 89, 90, 91, 92, 93, 94, 95, 96, 97, 98, 99, 100, 101, 102, 103, 104, 105, 106, 107, 108] (fun fr w' => ∃ (v_3 : Bool) (Ebs : Ents), Ebs = [(some b43, Obj.cells [(Value.slice a_y41_records append_1.1.records.length c_y41_records), (Value.int .i64 append_1.1.many), (Value.int .i64 append_1.1.synced)].toArray 52), (some b1, Obj.cells [(Value.slice a_l_records l.records.length c_l_records), (Value.int .i64 l.many), (Value.int .i64 l.synced)].toArray 52)] ∧ fr [] [(4, (Value.bool v_3))] ∧ Step (ks [(some b43, Obj.cells [(Value.slice a_y41_records append_1.1.records.length c_y41_records), (Value.int .i64 append_1.1.many), (Value.int .i64 append_1.1.synced)].toArray 52), (some b1, Obj.cells [(Value.slice a_l_records l.records.length c_l_records), (Value.int .i64 l.many), (Value.int .i64 l.synced)].toArray 52)] O) w64 (ks Ebs O) w' ∧ St ⟨w, [], []⟩ O w' Ebs ∧ k80 v_3 = some x) ?_ ?_
       ·
        rintro ρ87 w83 ⟨v_3, Ebs, hEbs, hfr86, hst85, hs84, hm⟩
        replace hm := jnE1 hk81 hm
        subst hEbs; rw [hfr86.eq]; clear hfr86
        replace f_l_records := f_l_records.step hst85; replace f_b := f_b.step hst85; replace f_y41_records := f_y41_records.step hst85; clear hst85 hs65
        refine Wp_ret ?_
        have hz := step_all hs84
        replace f_l_records := f_l_records.step hz; replace f_b := f_b.step hz; replace f_y41_records := f_y41_records.step hz
        refine ⟨_, (show Closes [] _ _ from rfl), [(Value.bool v_3)], ⟨rfl, trivial⟩, hs84.ext, ?_⟩
        exact Vr.eq (a := vB) (x := v_3) rfl (Option.some.inj hm)
       ·
        intro K82 hK82
        have ch88 := Step.refl (ks [(some b43, Obj.cells [(Value.slice a_y41_records append_1.1.records.length c_y41_records), (Value.int .i64 append_1.1.many), (Value.int .i64 append_1.1.synced)].toArray 52), (some b1, Obj.cells [(Value.slice a_l_records l.records.length c_l_records), (Value.int .i64 l.many), (Value.int .i64 l.synced)].toArray 52)] O) w64
        refine Wp_drawR (g0 := []) (m := 49) (fl := []) (TS_inv hs65) rfl (.inl rfl) rfl (by decide +kernel) ?_  -- 12
        refine Dw_eq (Value.agg [(Value.slice a_y41_records append_1.1.records.length c_y41_records), (Value.int .i64 append_1.1.many), (Value.int .i64 append_1.1.synced)].toArray) (fun ρ89 w90 g hle hi ht => ?_) ?_
        ·
         obtain ⟨-, hst, -⟩ := hle
         have hsn := (Step.nx hi).1
         refine StepOp_plain (op_loadA (cs := [(Value.slice a_y41_records append_1.1.records.length c_y41_records), (Value.int .i64 append_1.1.many), (Value.int .i64 append_1.1.synced)]) (vs := [(Value.slice a_y41_records append_1.1.records.length c_y41_records), (Value.int .i64 append_1.1.many), (Value.int .i64 append_1.1.synced)]) (i := 0) ty52 hsn (ht 5 rfl) rfl rfl rfl ?_)
         exact Goes.same hi rfl
        replace hm := bd hm; obtain ⟨check_1, hv95, hm⟩ := hm
        refine Dw_op (VD O [(some b43, Obj.cells [(Value.slice a_y41_records append_1.1.records.length c_y41_records), (Value.int .i64 append_1.1.many), (Value.int .i64 append_1.1.synced)].toArray 52), (some b1, Obj.cells [(Value.slice a_l_records l.records.length c_l_records), (Value.int .i64 l.many), (Value.int .i64 l.synced)].toArray 52)] (vI .i64) check_1) (VD.stab _ _) (fun ρ92 w93 g hle hi ht => ?_) ?_
        ·
         obtain ⟨-, hst, -⟩ := hle
         replace f_y41_records := f_y41_records.step hst
         refine StepOp_plain (op_call Try.call32 (c32_journal_Check (O := ks (ents g ++ [(some b43, Obj.cells [(Value.slice a_y41_records append_1.1.records.length c_y41_records), (Value.int .i64 append_1.1.many), (Value.int .i64 append_1.1.synced)].toArray 52), (some b1, Obj.cells [(Value.slice a_l_records l.records.length c_l_records), (Value.int .i64 l.many), (Value.int .i64 l.synced)].toArray 52)]) O) (l := append_1.1) hi.ltw f_y41_records r_y41_many r_y41_synced hv95) (by simp only [List.map, Array.toList, (show ev _ (.tmp 58) = _ from (ht 58 rfl))] <;> rfl) ?_)
         rintro v96 w97 ⟨hx98, h99⟩
         exact Goes.call hi hx98 h99
        refine Dw_eq (Value.bool (decide (check_1 = 0))) (fun ρ101 w102 g hle hi ht => ?_) ?_
        ·
         obtain ⟨-, hst, -⟩ := hle
         have h104 : Vr.vd (vI .i64) _ _ _ _ := ht 59 rfl
         obtain ⟨q105, r_y106⟩ := h104
         refine StepOp_plain (op_eql q105 rfl ?_)
         exact Goes.same hi rfl
        refine Dw_opB (decide (check_1 = 0)) (fun ρ107 w108 g hle hi ht => ?_) (fun hg110 => ?_) (fun hg110 => ?_)
        ·
         obtain ⟨-, hst, -⟩ := hle
         refine StepOp_plain (op_move (v := (Value.bool (decide (check_1 = 0)))) (ht 60 rfl) ?_)
         exact Goes.same hi rfl
        ·
         replace hm := bif_t hm hg110
         refine Dw_eq (Value.pointer (some ⟨b43, 1, none⟩)) (fun ρ111 w112 g hle hi ht => ?_) ?_
         ·
          obtain ⟨-, hst, -⟩ := hle
          refine StepOp_g rfl (ht 61 rfl) (op_fieldAddr ty52 rfl ty3 (by decide) (ht 5 rfl) (rfl : _ = (⟨_, 1, none⟩ : Addr)) ?_)
          exact Goes.same hi rfl
         refine Dw_eq (Value.int .i64 append_1.1.many) (fun ρ114 w115 g hle hi ht => ?_) ?_
         ·
          obtain ⟨-, hst, -⟩ := hle
          have hsn := (Step.nx hi).1
          refine StepOp_g rfl (ht 61 rfl) (op_load (cs := [(Value.slice a_y41_records append_1.1.records.length c_y41_records), (Value.int .i64 append_1.1.many), (Value.int .i64 append_1.1.synced)]) (i := 0) ty3 hsn (ht 62 rfl) rfl rfl ?_)
          exact Goes.same hi rfl
         refine Dw_eq (Value.pointer (some ⟨b1, 1, none⟩)) (fun ρ117 w118 g hle hi ht => ?_) ?_
         ·
          obtain ⟨-, hst, -⟩ := hle
          refine StepOp_g rfl (ht 61 rfl) (op_fieldAddr ty52 rfl ty3 (by decide) (ht 2 rfl) (rfl : _ = (⟨_, 1, none⟩ : Addr)) ?_)
          exact Goes.same hi rfl
         refine Dw_eq (Value.int .i64 l.many) (fun ρ120 w121 g hle hi ht => ?_) ?_
         ·
          obtain ⟨-, hst, -⟩ := hle
          have hsn := (Step.nx hi).1
          refine StepOp_g rfl (ht 61 rfl) (op_load (cs := [(Value.slice a_l_records l.records.length c_l_records), (Value.int .i64 l.many), (Value.int .i64 l.synced)]) (i := 1) ty3 hsn (ht 64 rfl) rfl rfl ?_)
          exact Goes.same hi rfl
         refine Dw_eq (Value.bool (decide (append_1.1.many = l.many))) (fun ρ123 w124 g hle hi ht => ?_) ?_
         ·
          obtain ⟨-, hst, -⟩ := hle
          refine StepOp_g rfl (ht 61 rfl) (op_eql (ht 63 rfl) (ht 65 rfl) ?_)
          exact Goes.same hi rfl
         refine Dw_eq (Value.bool (decide (append_1.1.many = l.many))) (fun ρ126 w127 g hle hi ht => ?_) ?_
         ·
          obtain ⟨-, hst, -⟩ := hle
          refine StepOp_plain (op_pick_t (v := (Value.bool (decide (append_1.1.many = l.many)))) (ht 61 rfl) (ht 66 rfl) ?_)
          exact Goes.same hi rfl
         refine Dw_opB (decide (append_1.1.many = l.many)) (fun ρ129 w130 g hle hi ht => ?_) (fun hg132 => ?_) (fun hg132 => ?_)
         ·
          obtain ⟨-, hst, -⟩ := hle
          refine StepOp_plain (op_move (v := (Value.bool (decide (append_1.1.many = l.many)))) (ht 67 rfl) ?_)
          exact Goes.same hi rfl
         ·
          replace hm := bif_t hm hg132
          refine Dw_eq (Value.pointer (some ⟨b43, 2, none⟩)) (fun ρ133 w134 g hle hi ht => ?_) ?_
          ·
           obtain ⟨-, hst, -⟩ := hle
           refine StepOp_g rfl (ht 68 rfl) (op_fieldAddr ty52 rfl ty3 (by decide) (ht 5 rfl) (rfl : _ = (⟨_, 2, none⟩ : Addr)) ?_)
           exact Goes.same hi rfl
          refine Dw_eq (Value.int .i64 append_1.1.synced) (fun ρ136 w137 g hle hi ht => ?_) ?_
          ·
           obtain ⟨-, hst, -⟩ := hle
           have hsn := (Step.nx hi).1
           refine StepOp_g rfl (ht 68 rfl) (op_load (cs := [(Value.slice a_y41_records append_1.1.records.length c_y41_records), (Value.int .i64 append_1.1.many), (Value.int .i64 append_1.1.synced)]) (i := 0) ty3 hsn (ht 69 rfl) rfl rfl ?_)
           exact Goes.same hi rfl
          refine Dw_eq (Value.pointer (some ⟨b1, 2, none⟩)) (fun ρ139 w140 g hle hi ht => ?_) ?_
          ·
           obtain ⟨-, hst, -⟩ := hle
           refine StepOp_g rfl (ht 68 rfl) (op_fieldAddr ty52 rfl ty3 (by decide) (ht 2 rfl) (rfl : _ = (⟨_, 2, none⟩ : Addr)) ?_)
           exact Goes.same hi rfl
          refine Dw_eq (Value.int .i64 l.synced) (fun ρ142 w143 g hle hi ht => ?_) ?_
          ·
           obtain ⟨-, hst, -⟩ := hle
           have hsn := (Step.nx hi).1
           refine StepOp_g rfl (ht 68 rfl) (op_load (cs := [(Value.slice a_l_records l.records.length c_l_records), (Value.int .i64 l.many), (Value.int .i64 l.synced)]) (i := 1) ty3 hsn (ht 71 rfl) rfl rfl ?_)
           exact Goes.same hi rfl
          refine Dw_eq (Value.bool (decide (append_1.1.synced = l.synced))) (fun ρ145 w146 g hle hi ht => ?_) ?_
          ·
           obtain ⟨-, hst, -⟩ := hle
           refine StepOp_g rfl (ht 68 rfl) (op_eql (ht 70 rfl) (ht 72 rfl) ?_)
           exact Goes.same hi rfl
          refine Dw_eq (Value.bool (decide (append_1.1.synced = l.synced))) (fun ρ148 w149 g hle hi ht => ?_) ?_
          ·
           obtain ⟨-, hst, -⟩ := hle
           refine StepOp_plain (op_pick_t (v := (Value.bool (decide (append_1.1.synced = l.synced)))) (ht 68 rfl) (ht 73 rfl) ?_)
           exact Goes.same hi rfl
          refine Dw_opB (decide (append_1.1.synced = l.synced)) (fun ρ151 w152 g hle hi ht => ?_) (fun hg154 => ?_) (fun hg154 => ?_)
          ·
           obtain ⟨-, hst, -⟩ := hle
           refine StepOp_plain (op_move (v := (Value.bool (decide (append_1.1.synced = l.synced)))) (ht 74 rfl) ?_)
           exact Goes.same hi rfl
          ·
           replace hm := bif_t hm hg154
           refine Dw_eq (Value.pointer (some ⟨b43, 0, none⟩)) (fun ρ155 w156 g hle hi ht => ?_) ?_
           ·
            obtain ⟨-, hst, -⟩ := hle
            refine StepOp_g rfl (ht 75 rfl) (op_fieldAddr ty52 rfl ty22 (by decide) (ht 5 rfl) (rfl : _ = (⟨_, 0, none⟩ : Addr)) ?_)
            exact Goes.same hi rfl
           refine Dw_eq (Value.slice a_y41_records append_1.1.records.length c_y41_records) (fun ρ158 w159 g hle hi ht => ?_) ?_
           ·
            obtain ⟨-, hst, -⟩ := hle
            have hsn := (Step.nx hi).1
            refine StepOp_g rfl (ht 75 rfl) (op_load (cs := [(Value.slice a_y41_records append_1.1.records.length c_y41_records), (Value.int .i64 append_1.1.many), (Value.int .i64 append_1.1.synced)]) (i := 0) ty22 hsn (ht 76 rfl) rfl rfl ?_)
            exact Goes.same hi rfl
           refine Dw_eq (Value.int .i64 (append_1.1.records.length : Int)) (fun ρ161 w162 g hle hi ht => ?_) ?_
           ·
            obtain ⟨-, hst, -⟩ := hle
            refine StepOp_g rfl (ht 75 rfl) (op_len Try.underlying22 (ht 77 rfl) ?_)
            exact Goes.same hi rfl
           refine Dw_eq (Value.int .i64 (l.records.length : Int)) (fun ρ164 w165 g hle hi ht => ?_) ?_
           ·
            obtain ⟨-, hst, -⟩ := hle
            refine StepOp_g rfl (ht 75 rfl) (op_move (v := (Value.int .i64 (l.records.length : Int))) (ht 8 rfl) ?_)
            exact Goes.same hi rfl
           refine Dw_eq (Value.int .i64 (IntKind.wrap .i64 ((l.records.length : Int) + 1))) (fun ρ167 w168 g hle hi ht => ?_) ?_
           ·
            obtain ⟨-, hst, -⟩ := hle
            refine StepOp_g rfl (ht 75 rfl) (op_addw (ht 79 rfl) rfl ?_)
            exact Goes.same hi rfl
           refine Dw_eq (Value.bool (decide ((append_1.1.records.length : Int) = (IntKind.wrap .i64 ((l.records.length : Int) + 1))))) (fun ρ170 w171 g hle hi ht => ?_) ?_
           ·
            obtain ⟨-, hst, -⟩ := hle
            refine StepOp_g rfl (ht 75 rfl) (op_eql (ht 78 rfl) (ht 80 rfl) ?_)
            exact Goes.same hi rfl
           refine Dw_eq (Value.bool (decide ((append_1.1.records.length : Int) = (IntKind.wrap .i64 ((l.records.length : Int) + 1))))) (fun ρ173 w174 g hle hi ht => ?_) ?_
           ·
            obtain ⟨-, hst, -⟩ := hle
            refine StepOp_plain (op_pick_t (v := (Value.bool (decide ((append_1.1.records.length : Int) = (IntKind.wrap .i64 ((l.records.length : Int) + 1)))))) (ht 75 rfl) (ht 81 rfl) ?_)
            exact Goes.same hi rfl
           refine Dw_opB (decide ((append_1.1.records.length : Int) = (IntKind.wrap .i64 ((l.records.length : Int) + 1)))) (fun ρ176 w177 g hle hi ht => ?_) (fun hg179 => ?_) (fun hg179 => ?_)
           ·
            obtain ⟨-, hst, -⟩ := hle
            refine StepOp_plain (op_move (v := (Value.bool (decide ((append_1.1.records.length : Int) = (IntKind.wrap .i64 ((l.records.length : Int) + 1)))))) (ht 82 rfl) ?_)
            exact Goes.same hi rfl
           ·
            replace hm := bif_t hm hg179
            refine Dw_eq (Value.pointer (some ⟨b43, 0, none⟩)) (fun ρ180 w181 g hle hi ht => ?_) ?_
            ·
             obtain ⟨-, hst, -⟩ := hle
             refine StepOp_g rfl (ht 83 rfl) (op_fieldAddr ty52 rfl ty22 (by decide) (ht 5 rfl) (rfl : _ = (⟨_, 0, none⟩ : Addr)) ?_)
             exact Goes.same hi rfl
            refine Dw_eq (Value.slice a_y41_records append_1.1.records.length c_y41_records) (fun ρ183 w184 g hle hi ht => ?_) ?_
            ·
             obtain ⟨-, hst, -⟩ := hle
             have hsn := (Step.nx hi).1
             refine StepOp_g rfl (ht 83 rfl) (op_load (cs := [(Value.slice a_y41_records append_1.1.records.length c_y41_records), (Value.int .i64 append_1.1.many), (Value.int .i64 append_1.1.synced)]) (i := 0) ty22 hsn (ht 84 rfl) rfl rfl ?_)
             exact Goes.same hi rfl
            refine Dw_eq (Value.int .i64 (l.records.length : Int)) (fun ρ186 w187 g hle hi ht => ?_) ?_
            ·
             obtain ⟨-, hst, -⟩ := hle
             refine StepOp_g rfl (ht 83 rfl) (op_move (v := (Value.int .i64 (l.records.length : Int))) (ht 8 rfl) ?_)
             exact Goes.same hi rfl
            replace hm := ck_some hm; obtain ⟨hc192, hm⟩ := hm
            refine Dw_op (VD O [(some b43, Obj.cells [(Value.slice a_y41_records append_1.1.records.length c_y41_records), (Value.int .i64 append_1.1.many), (Value.int .i64 append_1.1.synced)].toArray 52), (some b1, Obj.cells [(Value.slice a_l_records l.records.length c_l_records), (Value.int .i64 l.many), (Value.int .i64 l.synced)].toArray 52)] (vC (rSl (rSl rU8))) ((append_1.1.records.drop 0).take (l.records.length - 0))) (VD.stab _ _) (fun ρ189 w190 g hle hi ht => ?_) ?_
            ·
             obtain ⟨-, hst, -⟩ := hle
             replace f_y41_records := f_y41_records.step hst
             refine StepOp_g rfl (ht 83 rfl) (op_slice (q := (rSl rU8)) (l := 0) (h := l.records.length) (m := c_y41_records) ty22 ty41 (ht 85 rfl) f_y41_records rfl rfl (bndI (ht 86 rfl) (by omega)) rfl (by decide) (by omega) (by omega) (by have h_ : append_1.1.records.length ≤ c_y41_records := f_y41_records.le; omega) (by have h_ : append_1.1.records.length ≤ c_y41_records := f_y41_records.le; omega) ?_)
             intro a193 f194
             exact Goes.same hi (show Vr.vd (vC (rSl (rSl rU8))) _ _ _ _ from (mkC (mk_sl f194)))
            refine Dw_eq (Value.pointer (some ⟨b1, 0, none⟩)) (fun ρ195 w196 g hle hi ht => ?_) ?_
            ·
             obtain ⟨-, hst, -⟩ := hle
             refine StepOp_g rfl (ht 83 rfl) (op_fieldAddr ty52 rfl ty22 (by decide) (ht 2 rfl) (rfl : _ = (⟨_, 0, none⟩ : Addr)) ?_)
             exact Goes.same hi rfl
            refine Dw_eq (Value.slice a_l_records l.records.length c_l_records) (fun ρ198 w199 g hle hi ht => ?_) ?_
            ·
             obtain ⟨-, hst, -⟩ := hle
             have hsn := (Step.nx hi).1
             refine StepOp_g rfl (ht 83 rfl) (op_load (cs := [(Value.slice a_l_records l.records.length c_l_records), (Value.int .i64 l.many), (Value.int .i64 l.synced)]) (i := 1) ty22 hsn (ht 88 rfl) rfl rfl ?_)
             exact Goes.same hi rfl
            replace hm := bd hm; obtain ⟨samerecords_1, hv207, hm⟩ := hm
            refine Dw_op (VD O [(some b43, Obj.cells [(Value.slice a_y41_records append_1.1.records.length c_y41_records), (Value.int .i64 append_1.1.many), (Value.int .i64 append_1.1.synced)].toArray 52), (some b1, Obj.cells [(Value.slice a_l_records l.records.length c_l_records), (Value.int .i64 l.many), (Value.int .i64 l.synced)].toArray 52)] vB samerecords_1) (VD.stab _ _) (fun ρ201 w202 g hle hi ht => ?_) ?_
            ·
             obtain ⟨-, hst, -⟩ := hle
             replace f_l_records := f_l_records.step hst
             have h204 : Vr.vd (vC (rSl (rSl rU8))) _ _ _ _ := ht 87 rfl
             obtain ⟨a_y206, c_y206, q205, f_y206⟩ := un_sl h204
             refine StepOp_g rfl (ht 83 rfl) (op_call Try.call37 (c37_overflightref45_SameRecords (O := ks (ents g ++ [(some b43, Obj.cells [(Value.slice a_y41_records append_1.1.records.length c_y41_records), (Value.int .i64 append_1.1.many), (Value.int .i64 append_1.1.synced)].toArray 52), (some b1, Obj.cells [(Value.slice a_l_records l.records.length c_l_records), (Value.int .i64 l.many), (Value.int .i64 l.synced)].toArray 52)]) O) (a := ((append_1.1.records.drop 0).take (l.records.length - 0))) (b := l.records) hi.ltw f_y206 f_l_records hv207) (by simp only [List.map, Array.toList, (show ev _ (.tmp 87) = _ from q205), (show ev _ (.tmp 89) = _ from (ht 89 rfl))] <;> rfl) ?_)
             rintro v208 w209 ⟨hx210, h211⟩
             exact Goes.call hi hx210 h211
            refine Dw_eq (Value.bool samerecords_1) (fun ρ213 w214 g hle hi ht => ?_) ?_
            ·
             obtain ⟨-, hst, -⟩ := hle
             have h216 : Vr.vd vB _ _ _ _ := ht 90 rfl
             have q217 : _ = (Value.bool samerecords_1) := h216
             refine StepOp_plain (op_pick_t (v := (Value.bool samerecords_1)) (ht 83 rfl) q217 ?_)
             exact Goes.same hi rfl
            refine Dw_opB samerecords_1 (fun ρ219 w220 g hle hi ht => ?_) (fun hg222 => ?_) (fun hg222 => ?_)
            ·
             obtain ⟨-, hst, -⟩ := hle
             refine StepOp_plain (op_move (v := (Value.bool samerecords_1)) (ht 91 rfl) ?_)
             exact Goes.same hi rfl
            ·
             replace hm := bif_t hm hg222
             refine Dw_eq (Value.pointer (some ⟨b43, 0, none⟩)) (fun ρ223 w224 g hle hi ht => ?_) ?_
             ·
              obtain ⟨-, hst, -⟩ := hle
              refine StepOp_g rfl (ht 92 rfl) (op_fieldAddr ty52 rfl ty22 (by decide) (ht 5 rfl) (rfl : _ = (⟨_, 0, none⟩ : Addr)) ?_)
              exact Goes.same hi rfl
             refine Dw_eq (Value.slice a_y41_records append_1.1.records.length c_y41_records) (fun ρ226 w227 g hle hi ht => ?_) ?_
             ·
              obtain ⟨-, hst, -⟩ := hle
              have hsn := (Step.nx hi).1
              refine StepOp_g rfl (ht 92 rfl) (op_load (cs := [(Value.slice a_y41_records append_1.1.records.length c_y41_records), (Value.int .i64 append_1.1.many), (Value.int .i64 append_1.1.synced)]) (i := 0) ty22 hsn (ht 93 rfl) rfl rfl ?_)
              exact Goes.same hi rfl
             refine Dw_eq (Value.int .i64 (l.records.length : Int)) (fun ρ229 w230 g hle hi ht => ?_) ?_
             ·
              obtain ⟨-, hst, -⟩ := hle
              refine StepOp_g rfl (ht 92 rfl) (op_move (v := (Value.int .i64 (l.records.length : Int))) (ht 8 rfl) ?_)
              exact Goes.same hi rfl
             replace hm := ck_some hm; obtain ⟨hc235, hm⟩ := hm
             refine Dw_op (VP O [(some b43, Obj.cells [(Value.slice a_y41_records append_1.1.records.length c_y41_records), (Value.int .i64 append_1.1.many), (Value.int .i64 append_1.1.synced)].toArray 52), (some b1, Obj.cells [(Value.slice a_l_records l.records.length c_l_records), (Value.int .i64 l.many), (Value.int .i64 l.synced)].toArray 52)] (rSl rU8) (append_1.1.records.getD l.records.length default)) (VP.stab _ _) (fun ρ232 w233 g hle hi ht => ?_) ?_
             ·
              obtain ⟨-, hst, -⟩ := hle
              replace f_y41_records := f_y41_records.step hst
              refine StepOp_g rfl (ht 92 rfl) (op_indexAddr (q := (rSl rU8)) ty22 ty41 (ht 94 rfl) (ht 95 rfl) f_y41_records rfl hc235.1 hc235.2 ?_)
              intro p236 f237
              exact Goes.same hi ⟨_, rfl, f237⟩
             refine Dw_op (VD O [(some b43, Obj.cells [(Value.slice a_y41_records append_1.1.records.length c_y41_records), (Value.int .i64 append_1.1.many), (Value.int .i64 append_1.1.synced)].toArray 52), (some b1, Obj.cells [(Value.slice a_l_records l.records.length c_l_records), (Value.int .i64 l.many), (Value.int .i64 l.synced)].toArray 52)] (vC (rSl rU8)) (append_1.1.records.getD l.records.length default)) (VD.stab _ _) (fun ρ238 w239 g hle hi ht => ?_) ?_
             ·
              obtain ⟨-, hst, -⟩ := hle
              obtain ⟨p241, q242, f243⟩ := ht 96 rfl
              refine StepOp_g rfl (ht 92 rfl) (op_loadP ty41 q242 f243 rfl ?_)
              intro v244 h245
              obtain ⟨a_y246, c_y246, rfl, f_y246⟩ := un_sl h245
              exact Goes.same hi (show Vr.vd (vC (rSl rU8)) _ _ _ _ from (mkC (mk_sl f_y246)))
             refine Dw_eq (Value.string (bs (append_1.1.records.getD l.records.length default))) (fun ρ247 w248 g hle hi ht => ?_) ?_
             ·
              obtain ⟨-, hst, -⟩ := hle
              have h250 : Vr.vd (vC (rSl rU8)) _ _ _ _ := ht 97 rfl
              obtain ⟨a_y252, c_y252, q251, f_y252⟩ := un_sl h250
              refine StepOp_g rfl (ht 92 rfl) (op_bytesToString ty41 Try.underlying5 Try.underlying9 q251 f_y252 ?_)
              exact Goes.same hi rfl
             refine Dw_eq (Value.slice a_b b.length c_b) (fun ρ253 w254 g hle hi ht => ?_) ?_
             ·
              obtain ⟨-, hst, -⟩ := hle
              refine StepOp_g rfl (ht 92 rfl) (op_move (v := (Value.slice a_b b.length c_b)) (ht 1 rfl) ?_)
              exact Goes.same hi rfl
             refine Dw_eq (Value.string (bs b)) (fun ρ256 w257 g hle hi ht => ?_) ?_
             ·
              obtain ⟨-, hst, -⟩ := hle
              replace f_b := f_b.step hst
              refine StepOp_g rfl (ht 92 rfl) (op_bytesToString ty41 Try.underlying5 Try.underlying9 (ht 99 rfl) f_b ?_)
              exact Goes.same hi rfl
             refine Dw_eq (Value.bool (decide ((append_1.1.records.getD l.records.length default) = b))) (fun ρ259 w260 g hle hi ht => ?_) ?_
             ·
              obtain ⟨-, hst, -⟩ := hle
              refine StepOp_g rfl (ht 92 rfl) (op_eqs (a := (append_1.1.records.getD l.records.length default)) (b := b) (ht 98 rfl) (ht 100 rfl) ?_)
              exact Goes.same hi rfl
             refine Dw_eq (Value.bool (decide ((append_1.1.records.getD l.records.length default) = b))) (fun ρ262 w263 g hle hi ht => ?_) ?_
             ·
              obtain ⟨-, hst, -⟩ := hle
              refine StepOp_plain (op_pick_t (v := (Value.bool (decide ((append_1.1.records.getD l.records.length default) = b)))) (ht 92 rfl) (ht 101 rfl) ?_)
              exact Goes.same hi rfl
             refine Dw_opB (decide ((append_1.1.records.getD l.records.length default) = b)) (fun ρ265 w266 g hle hi ht => ?_) (fun hg268 => ?_) (fun hg268 => ?_)
             ·
              obtain ⟨-, hst, -⟩ := hle
              refine StepOp_plain (op_move (v := (Value.bool (decide ((append_1.1.records.getD l.records.length default) = b)))) (ht 102 rfl) ?_)
              exact Goes.same hi rfl
             ·
              replace hm := bif_t hm hg268
              refine Dw_eq (Value.agg [(Value.slice a_y41_records append_1.1.records.length c_y41_records), (Value.int .i64 append_1.1.many), (Value.int .i64 append_1.1.synced)].toArray) (fun ρ269 w270 g hle hi ht => ?_) ?_
              ·
               obtain ⟨-, hst, -⟩ := hle
               have hsn := (Step.nx hi).1
               refine StepOp_g rfl (ht 103 rfl) (op_loadA (cs := [(Value.slice a_y41_records append_1.1.records.length c_y41_records), (Value.int .i64 append_1.1.many), (Value.int .i64 append_1.1.synced)]) (vs := [(Value.slice a_y41_records append_1.1.records.length c_y41_records), (Value.int .i64 append_1.1.many), (Value.int .i64 append_1.1.synced)]) (i := 0) ty52 hsn (ht 5 rfl) rfl rfl rfl ?_)
               exact Goes.same hi rfl
              replace hm := bd hm; obtain ⟨room_2, hv275, hm⟩ := hm
              refine Dw_op (VD O [(some b43, Obj.cells [(Value.slice a_y41_records append_1.1.records.length c_y41_records), (Value.int .i64 append_1.1.many), (Value.int .i64 append_1.1.synced)].toArray 52), (some b1, Obj.cells [(Value.slice a_l_records l.records.length c_l_records), (Value.int .i64 l.many), (Value.int .i64 l.synced)].toArray 52)] (vI .i64) room_2) (VD.stab _ _) (fun ρ272 w273 g hle hi ht => ?_) ?_
              ·
               obtain ⟨-, hst, -⟩ := hle
               replace f_y41_records := f_y41_records.step hst
               refine StepOp_g rfl (ht 103 rfl) (op_call Try.call34 (c34_journal_Room (O := ks (ents g ++ [(some b43, Obj.cells [(Value.slice a_y41_records append_1.1.records.length c_y41_records), (Value.int .i64 append_1.1.many), (Value.int .i64 append_1.1.synced)].toArray 52), (some b1, Obj.cells [(Value.slice a_l_records l.records.length c_l_records), (Value.int .i64 l.many), (Value.int .i64 l.synced)].toArray 52)]) O) (l := append_1.1) hi.ltw f_y41_records r_y41_many r_y41_synced hv275) (by simp only [List.map, Array.toList, (show ev _ (.tmp 104) = _ from (ht 104 rfl))] <;> rfl) ?_)
               rintro v276 w277 ⟨hx278, h279⟩
               exact Goes.call hi hx278 h279
              refine Dw_eq (Value.int .i64 room_1) (fun ρ281 w282 g hle hi ht => ?_) ?_
              ·
               obtain ⟨-, hst, -⟩ := hle
               refine StepOp_g rfl (ht 103 rfl) (op_move (v := (Value.int .i64 room_1)) (ht 7 rfl) ?_)
               exact Goes.same hi rfl
              refine Dw_nil fun w288 g289 hl290 hi291 => ?_
              obtain ⟨-, hst292, -⟩ := hl290
              obtain ⟨hs294, p293⟩ := Step.nx hi291
              rintro _ rfl
              rintro v295 h296
              replace h296 : Vr.vd (vI .i64) _ _ _ _ := h296
              obtain ⟨rfl, r_y297⟩ := h296
              rintro _ rfl
              rintro _ rfl
              rintro _ rfl
              rintro _ rfl
              rintro _ rfl
              rintro _ rfl
              rintro _ rfl
              rintro v298 h299
              replace h299 : Vr.vd (vC (rSl rU8)) _ _ _ _ := h299
              obtain ⟨a_y300, c_y300, rfl, f_y300⟩ := un_sl h299
              rintro _ ⟨p301, rfl, f302⟩
              rintro _ rfl
              rintro _ rfl
              rintro _ rfl
              rintro _ rfl
              rintro _ rfl
              rintro v303 h304
              replace h304 : Vr.vd vB _ _ _ _ := h304
              obtain rfl := h304
              rintro _ rfl
              rintro _ rfl
              rintro v306 h307
              replace h307 : Vr.vd (vC (rSl (rSl rU8))) _ _ _ _ := h307
              obtain ⟨a_y308, c_y308, rfl, f_y308⟩ := un_sl h307
              rintro _ rfl
              rintro _ rfl
              rintro _ rfl
              rintro _ rfl
              rintro _ rfl
              rintro _ rfl
              rintro _ rfl
              rintro _ rfl
              rintro _ rfl
              rintro _ rfl
              rintro _ rfl
              rintro _ rfl
              rintro _ rfl
              rintro _ rfl
              rintro _ rfl
              rintro _ rfl
              rintro _ rfl
              rintro _ rfl
              rintro _ rfl
              rintro _ rfl
              rintro _ rfl
              rintro _ rfl
              rintro _ rfl
              rintro _ rfl
              rintro _ rfl
              rintro _ rfl
              rintro _ rfl
              rintro v309 h310
              replace h310 : Vr.vd (vI .i64) _ _ _ _ := h310
              obtain ⟨rfl, r_y311⟩ := h310
              rintro _ rfl
              have p312 : Step (ks [(some b43, Obj.cells [(Value.slice a_y41_records append_1.1.records.length c_y41_records), (Value.int .i64 append_1.1.many), (Value.int .i64 append_1.1.synced)].toArray 52), (some b1, Obj.cells [(Value.slice a_l_records l.records.length c_l_records), (Value.int .i64 l.many), (Value.int .i64 l.synced)].toArray 52)] O) w64 (ks [(some b43, Obj.cells [(Value.slice a_y41_records append_1.1.records.length c_y41_records), (Value.int .i64 append_1.1.many), (Value.int .i64 append_1.1.synced)].toArray 52), (some b1, Obj.cells [(Value.slice a_l_records l.records.length c_l_records), (Value.int .i64 l.many), (Value.int .i64 l.synced)].toArray 52)] O) w288 := hst292.trans p293
              replace f_y300 := f_y300.step p293; replace f302 := f302.step p293; replace f_y308 := f_y308.step p293; replace f_l_records := f_l_records.step p312; replace f_b := f_b.step p312; replace f_y41_records := f_y41_records.step p312; replace ch88 := ch88.trans p312; clear p312 hs65
              refine Rg_opg rfl rfl rfl (op_lss rfl rfl ?_)
              refine Rg_op rfl (op_pick_t (v := (Value.bool (decide (room_2 < room_1)))) rfl rfl ?_)
              refine Rg_op rfl (op_assign (v := (Value.bool (decide (room_2 < room_1)))) rfl ?_)
              refine Rg_nil ?_
              exact hK82 _ _ ⟨(decide (room_2 < room_1)), _, rfl, ⟨(by repeat (first | with_reducible exact Out.refl _ _ | refine Out.upd ?_ rfl | refine Out.updL ?_ rfl | refine Out.mix' ?_ rfl | exact Out.refl _ _)), rfl, rfl, trivial⟩, ch88, hs294, hm⟩
             ·
              replace hm := bif_f hm hg268
              refine Dw_skip (fun _ _ _ ht => wanted_x rfl (ht 103 rfl) rfl) ?_
              refine Dw_skip (fun _ _ _ ht => wanted_x rfl (ht 103 rfl) rfl) ?_
              refine Dw_skip (fun _ _ _ ht => wanted_x rfl (ht 103 rfl) rfl) ?_
              refine Dw_nil fun w317 g318 hl319 hi320 => ?_
              obtain ⟨-, hst321, -⟩ := hl319
              obtain ⟨hs323, p322⟩ := Step.nx hi320
              rintro _ rfl
              rintro _ rfl
              rintro _ rfl
              rintro _ rfl
              rintro _ rfl
              rintro _ rfl
              rintro _ rfl
              rintro _ rfl
              rintro _ rfl
              rintro v324 h325
              replace h325 : Vr.vd (vC (rSl rU8)) _ _ _ _ := h325
              obtain ⟨a_y326, c_y326, rfl, f_y326⟩ := un_sl h325
              rintro _ ⟨p327, rfl, f328⟩
              rintro _ rfl
              rintro _ rfl
              rintro _ rfl
              rintro _ rfl
              rintro _ rfl
              rintro v329 h330
              replace h330 : Vr.vd vB _ _ _ _ := h330
              obtain rfl := h330
              rintro _ rfl
              rintro _ rfl
              rintro v332 h333
              replace h333 : Vr.vd (vC (rSl (rSl rU8))) _ _ _ _ := h333
              obtain ⟨a_y334, c_y334, rfl, f_y334⟩ := un_sl h333
              rintro _ rfl
              rintro _ rfl
              rintro _ rfl
              rintro _ rfl
              rintro _ rfl
              rintro _ rfl
              rintro _ rfl
              rintro _ rfl
              rintro _ rfl
              rintro _ rfl
              rintro _ rfl
              rintro _ rfl
              rintro _ rfl
              rintro _ rfl
              rintro _ rfl
              rintro _ rfl
              rintro _ rfl
              rintro _ rfl
              rintro _ rfl
              rintro _ rfl
              rintro _ rfl
              rintro _ rfl
              rintro _ rfl
              rintro _ rfl
              rintro _ rfl
              rintro _ rfl
              rintro _ rfl
              rintro v335 h336
              replace h336 : Vr.vd (vI .i64) _ _ _ _ := h336
              obtain ⟨rfl, r_y337⟩ := h336
              rintro _ rfl
              have p338 : Step (ks [(some b43, Obj.cells [(Value.slice a_y41_records append_1.1.records.length c_y41_records), (Value.int .i64 append_1.1.many), (Value.int .i64 append_1.1.synced)].toArray 52), (some b1, Obj.cells [(Value.slice a_l_records l.records.length c_l_records), (Value.int .i64 l.many), (Value.int .i64 l.synced)].toArray 52)] O) w64 (ks [(some b43, Obj.cells [(Value.slice a_y41_records append_1.1.records.length c_y41_records), (Value.int .i64 append_1.1.many), (Value.int .i64 append_1.1.synced)].toArray 52), (some b1, Obj.cells [(Value.slice a_l_records l.records.length c_l_records), (Value.int .i64 l.many), (Value.int .i64 l.synced)].toArray 52)] O) w317 := hst321.trans p322
              replace f_y326 := f_y326.step p322; replace f328 := f328.step p322; replace f_y334 := f_y334.step p322; replace f_l_records := f_l_records.step p338; replace f_b := f_b.step p338; replace f_y41_records := f_y41_records.step p338; replace ch88 := ch88.trans p338; clear p338 hs65
              refine Rg_opx rfl (asB_ne rfl rfl) rfl ?_
              refine Rg_op rfl (op_pick_f (v := (Value.bool false)) rfl rfl ?_)
              refine Rg_op rfl (op_assign (v := (Value.bool false)) rfl ?_)
              refine Rg_nil ?_
              exact hK82 _ _ ⟨false, _, rfl, ⟨(by repeat (first | with_reducible exact Out.refl _ _ | refine Out.upd ?_ rfl | refine Out.updL ?_ rfl | refine Out.mix' ?_ rfl | exact Out.refl _ _)), rfl, rfl, trivial⟩, ch88, hs323, hm⟩
            ·
             replace hm := bif_f hm hg222
             refine Dw_skip (fun _ _ _ ht => wanted_x rfl (ht 92 rfl) rfl) ?_
             refine Dw_skip (fun _ _ _ ht => wanted_x rfl (ht 92 rfl) rfl) ?_
             refine Dw_skip (fun _ _ _ ht => wanted_x rfl (ht 92 rfl) rfl) ?_
             refine Dw_skip (fun _ _ _ ht => wanted_x rfl (ht 92 rfl) rfl) ?_
             refine Dw_skip (fun _ _ _ ht => wanted_x rfl (ht 92 rfl) rfl) ?_
             refine Dw_skip (fun _ _ _ ht => wanted_x rfl (ht 92 rfl) rfl) ?_
             refine Dw_skip (fun _ _ _ ht => wanted_x rfl (ht 92 rfl) rfl) ?_
             refine Dw_skip (fun _ _ _ ht => wanted_x rfl (ht 92 rfl) rfl) ?_
             refine Dw_skip (fun _ _ _ ht => wanted_x rfl (ht 92 rfl) rfl) ?_
             refine Dw_eq (Value.bool false) (fun ρ339 w340 g hle hi ht => ?_) ?_
             ·
              obtain ⟨-, hst, -⟩ := hle
              refine StepOp_plain (op_pick_f (v := (Value.bool false)) (ht 92 rfl) rfl ?_)
              exact Goes.same hi rfl
             refine Dw_eq (Value.bool false) (fun ρ342 w343 g hle hi ht => ?_) ?_
             ·
              obtain ⟨-, hst, -⟩ := hle
              refine StepOp_plain (op_move (v := (Value.bool false)) (ht 102 rfl) ?_)
              exact Goes.same hi rfl
             refine Dw_skip (fun _ _ _ ht => wanted_x rfl (ht 103 rfl) rfl) ?_
             refine Dw_skip (fun _ _ _ ht => wanted_x rfl (ht 103 rfl) rfl) ?_
             refine Dw_skip (fun _ _ _ ht => wanted_x rfl (ht 103 rfl) rfl) ?_
             refine Dw_nil fun w349 g350 hl351 hi352 => ?_
             obtain ⟨-, hst353, -⟩ := hl351
             obtain ⟨hs355, p354⟩ := Step.nx hi352
             rintro _ rfl
             rintro _ rfl
             rintro _ rfl
             rintro _ rfl
             rintro _ rfl
             rintro _ rfl
             rintro _ rfl
             rintro _ rfl
             rintro _ rfl
             rintro _ rfl
             rintro _ rfl
             rintro _ rfl
             rintro _ rfl
             rintro _ rfl
             rintro _ rfl
             rintro _ rfl
             rintro v356 h357
             replace h357 : Vr.vd vB _ _ _ _ := h357
             obtain rfl := h357
             rintro _ rfl
             rintro _ rfl
             rintro v359 h360
             replace h360 : Vr.vd (vC (rSl (rSl rU8))) _ _ _ _ := h360
             obtain ⟨a_y361, c_y361, rfl, f_y361⟩ := un_sl h360
             rintro _ rfl
             rintro _ rfl
             rintro _ rfl
             rintro _ rfl
             rintro _ rfl
             rintro _ rfl
             rintro _ rfl
             rintro _ rfl
             rintro _ rfl
             rintro _ rfl
             rintro _ rfl
             rintro _ rfl
             rintro _ rfl
             rintro _ rfl
             rintro _ rfl
             rintro _ rfl
             rintro _ rfl
             rintro _ rfl
             rintro _ rfl
             rintro _ rfl
             rintro _ rfl
             rintro _ rfl
             rintro _ rfl
             rintro _ rfl
             rintro _ rfl
             rintro _ rfl
             rintro _ rfl
             rintro v362 h363
             replace h363 : Vr.vd (vI .i64) _ _ _ _ := h363
             obtain ⟨rfl, r_y364⟩ := h363
             rintro _ rfl
             have p365 : Step (ks [(some b43, Obj.cells [(Value.slice a_y41_records append_1.1.records.length c_y41_records), (Value.int .i64 append_1.1.many), (Value.int .i64 append_1.1.synced)].toArray 52), (some b1, Obj.cells [(Value.slice a_l_records l.records.length c_l_records), (Value.int .i64 l.many), (Value.int .i64 l.synced)].toArray 52)] O) w64 (ks [(some b43, Obj.cells [(Value.slice a_y41_records append_1.1.records.length c_y41_records), (Value.int .i64 append_1.1.many), (Value.int .i64 append_1.1.synced)].toArray 52), (some b1, Obj.cells [(Value.slice a_l_records l.records.length c_l_records), (Value.int .i64 l.many), (Value.int .i64 l.synced)].toArray 52)] O) w349 := hst353.trans p354
             replace f_y361 := f_y361.step p354; replace f_l_records := f_l_records.step p365; replace f_b := f_b.step p365; replace f_y41_records := f_y41_records.step p365; replace ch88 := ch88.trans p365; clear p365 hs65
             refine Rg_opx rfl (asB_ne rfl rfl) rfl ?_
             refine Rg_op rfl (op_pick_f (v := (Value.bool false)) rfl rfl ?_)
             refine Rg_op rfl (op_assign (v := (Value.bool false)) rfl ?_)
             refine Rg_nil ?_
             exact hK82 _ _ ⟨false, _, rfl, ⟨(by repeat (first | with_reducible exact Out.refl _ _ | refine Out.upd ?_ rfl | refine Out.updL ?_ rfl | refine Out.mix' ?_ rfl | exact Out.refl _ _)), rfl, rfl, trivial⟩, ch88, hs355, hm⟩
           ·
            replace hm := bif_f hm hg179
            refine Dw_skip (fun _ _ _ ht => wanted_x rfl (ht 83 rfl) rfl) ?_
            refine Dw_skip (fun _ _ _ ht => wanted_x rfl (ht 83 rfl) rfl) ?_
            refine Dw_skip (fun _ _ _ ht => wanted_x rfl (ht 83 rfl) rfl) ?_
            refine Dw_skip (fun _ _ _ ht => wanted_x rfl (ht 83 rfl) rfl) ?_
            refine Dw_skip (fun _ _ _ ht => wanted_x rfl (ht 83 rfl) rfl) ?_
            refine Dw_skip (fun _ _ _ ht => wanted_x rfl (ht 83 rfl) rfl) ?_
            refine Dw_skip (fun _ _ _ ht => wanted_x rfl (ht 83 rfl) rfl) ?_
            refine Dw_eq (Value.bool false) (fun ρ366 w367 g hle hi ht => ?_) ?_
            ·
             obtain ⟨-, hst, -⟩ := hle
             refine StepOp_plain (op_pick_f (v := (Value.bool false)) (ht 83 rfl) rfl ?_)
             exact Goes.same hi rfl
            refine Dw_eq (Value.bool false) (fun ρ369 w370 g hle hi ht => ?_) ?_
            ·
             obtain ⟨-, hst, -⟩ := hle
             refine StepOp_plain (op_move (v := (Value.bool false)) (ht 91 rfl) ?_)
             exact Goes.same hi rfl
            refine Dw_skip (fun _ _ _ ht => wanted_x rfl (ht 92 rfl) rfl) ?_
            refine Dw_skip (fun _ _ _ ht => wanted_x rfl (ht 92 rfl) rfl) ?_
            refine Dw_skip (fun _ _ _ ht => wanted_x rfl (ht 92 rfl) rfl) ?_
            refine Dw_skip (fun _ _ _ ht => wanted_x rfl (ht 92 rfl) rfl) ?_
            refine Dw_skip (fun _ _ _ ht => wanted_x rfl (ht 92 rfl) rfl) ?_
            refine Dw_skip (fun _ _ _ ht => wanted_x rfl (ht 92 rfl) rfl) ?_
            refine Dw_skip (fun _ _ _ ht => wanted_x rfl (ht 92 rfl) rfl) ?_
            refine Dw_skip (fun _ _ _ ht => wanted_x rfl (ht 92 rfl) rfl) ?_
            refine Dw_skip (fun _ _ _ ht => wanted_x rfl (ht 92 rfl) rfl) ?_
            refine Dw_eq (Value.bool false) (fun ρ372 w373 g hle hi ht => ?_) ?_
            ·
             obtain ⟨-, hst, -⟩ := hle
             refine StepOp_plain (op_pick_f (v := (Value.bool false)) (ht 92 rfl) rfl ?_)
             exact Goes.same hi rfl
            refine Dw_eq (Value.bool false) (fun ρ375 w376 g hle hi ht => ?_) ?_
            ·
             obtain ⟨-, hst, -⟩ := hle
             refine StepOp_plain (op_move (v := (Value.bool false)) (ht 102 rfl) ?_)
             exact Goes.same hi rfl
            refine Dw_skip (fun _ _ _ ht => wanted_x rfl (ht 103 rfl) rfl) ?_
            refine Dw_skip (fun _ _ _ ht => wanted_x rfl (ht 103 rfl) rfl) ?_
            refine Dw_skip (fun _ _ _ ht => wanted_x rfl (ht 103 rfl) rfl) ?_
            refine Dw_nil fun w382 g383 hl384 hi385 => ?_
            obtain ⟨-, hst386, -⟩ := hl384
            obtain ⟨hs388, p387⟩ := Step.nx hi385
            rintro _ rfl
            rintro _ rfl
            rintro _ rfl
            rintro _ rfl
            rintro _ rfl
            rintro _ rfl
            rintro _ rfl
            rintro _ rfl
            rintro _ rfl
            rintro _ rfl
            rintro _ rfl
            rintro _ rfl
            rintro _ rfl
            rintro _ rfl
            rintro _ rfl
            rintro _ rfl
            rintro _ rfl
            rintro _ rfl
            rintro _ rfl
            rintro _ rfl
            rintro _ rfl
            rintro _ rfl
            rintro _ rfl
            rintro _ rfl
            rintro _ rfl
            rintro _ rfl
            rintro _ rfl
            rintro _ rfl
            rintro _ rfl
            rintro _ rfl
            rintro _ rfl
            rintro _ rfl
            rintro _ rfl
            rintro _ rfl
            rintro _ rfl
            rintro _ rfl
            rintro _ rfl
            rintro _ rfl
            rintro _ rfl
            rintro _ rfl
            rintro _ rfl
            rintro _ rfl
            rintro _ rfl
            rintro _ rfl
            rintro _ rfl
            rintro _ rfl
            rintro _ rfl
            rintro v389 h390
            replace h390 : Vr.vd (vI .i64) _ _ _ _ := h390
            obtain ⟨rfl, r_y391⟩ := h390
            rintro _ rfl
            have p392 : Step (ks [(some b43, Obj.cells [(Value.slice a_y41_records append_1.1.records.length c_y41_records), (Value.int .i64 append_1.1.many), (Value.int .i64 append_1.1.synced)].toArray 52), (some b1, Obj.cells [(Value.slice a_l_records l.records.length c_l_records), (Value.int .i64 l.many), (Value.int .i64 l.synced)].toArray 52)] O) w64 (ks [(some b43, Obj.cells [(Value.slice a_y41_records append_1.1.records.length c_y41_records), (Value.int .i64 append_1.1.many), (Value.int .i64 append_1.1.synced)].toArray 52), (some b1, Obj.cells [(Value.slice a_l_records l.records.length c_l_records), (Value.int .i64 l.many), (Value.int .i64 l.synced)].toArray 52)] O) w382 := hst386.trans p387
            replace f_l_records := f_l_records.step p392; replace f_b := f_b.step p392; replace f_y41_records := f_y41_records.step p392; replace ch88 := ch88.trans p392; clear p392 hs65
            refine Rg_opx rfl (asB_ne rfl rfl) rfl ?_
            refine Rg_op rfl (op_pick_f (v := (Value.bool false)) rfl rfl ?_)
            refine Rg_op rfl (op_assign (v := (Value.bool false)) rfl ?_)
            refine Rg_nil ?_
            exact hK82 _ _ ⟨false, _, rfl, ⟨(by repeat (first | with_reducible exact Out.refl _ _ | refine Out.upd ?_ rfl | refine Out.updL ?_ rfl | refine Out.mix' ?_ rfl | exact Out.refl _ _)), rfl, rfl, trivial⟩, ch88, hs388, hm⟩
          ·
           replace hm := bif_f hm hg154
           refine Dw_skip (fun _ _ _ ht => wanted_x rfl (ht 75 rfl) rfl) ?_
           refine Dw_skip (fun _ _ _ ht => wanted_x rfl (ht 75 rfl) rfl) ?_
           refine Dw_skip (fun _ _ _ ht => wanted_x rfl (ht 75 rfl) rfl) ?_
           refine Dw_skip (fun _ _ _ ht => wanted_x rfl (ht 75 rfl) rfl) ?_
           refine Dw_skip (fun _ _ _ ht => wanted_x rfl (ht 75 rfl) rfl) ?_
           refine Dw_skip (fun _ _ _ ht => wanted_x rfl (ht 75 rfl) rfl) ?_
           refine Dw_eq (Value.bool false) (fun ρ393 w394 g hle hi ht => ?_) ?_
           ·
            obtain ⟨-, hst, -⟩ := hle
            refine StepOp_plain (op_pick_f (v := (Value.bool false)) (ht 75 rfl) rfl ?_)
            exact Goes.same hi rfl
           refine Dw_eq (Value.bool false) (fun ρ396 w397 g hle hi ht => ?_) ?_
           ·
            obtain ⟨-, hst, -⟩ := hle
            refine StepOp_plain (op_move (v := (Value.bool false)) (ht 82 rfl) ?_)
            exact Goes.same hi rfl
           refine Dw_skip (fun _ _ _ ht => wanted_x rfl (ht 83 rfl) rfl) ?_
           refine Dw_skip (fun _ _ _ ht => wanted_x rfl (ht 83 rfl) rfl) ?_
           refine Dw_skip (fun _ _ _ ht => wanted_x rfl (ht 83 rfl) rfl) ?_
           refine Dw_skip (fun _ _ _ ht => wanted_x rfl (ht 83 rfl) rfl) ?_
           refine Dw_skip (fun _ _ _ ht => wanted_x rfl (ht 83 rfl) rfl) ?_
           refine Dw_skip (fun _ _ _ ht => wanted_x rfl (ht 83 rfl) rfl) ?_
           refine Dw_skip (fun _ _ _ ht => wanted_x rfl (ht 83 rfl) rfl) ?_
           refine Dw_eq (Value.bool false) (fun ρ399 w400 g hle hi ht => ?_) ?_
           ·
            obtain ⟨-, hst, -⟩ := hle
            refine StepOp_plain (op_pick_f (v := (Value.bool false)) (ht 83 rfl) rfl ?_)
            exact Goes.same hi rfl
           refine Dw_eq (Value.bool false) (fun ρ402 w403 g hle hi ht => ?_) ?_
           ·
            obtain ⟨-, hst, -⟩ := hle
            refine StepOp_plain (op_move (v := (Value.bool false)) (ht 91 rfl) ?_)
            exact Goes.same hi rfl
           refine Dw_skip (fun _ _ _ ht => wanted_x rfl (ht 92 rfl) rfl) ?_
           refine Dw_skip (fun _ _ _ ht => wanted_x rfl (ht 92 rfl) rfl) ?_
           refine Dw_skip (fun _ _ _ ht => wanted_x rfl (ht 92 rfl) rfl) ?_
           refine Dw_skip (fun _ _ _ ht => wanted_x rfl (ht 92 rfl) rfl) ?_
           refine Dw_skip (fun _ _ _ ht => wanted_x rfl (ht 92 rfl) rfl) ?_
           refine Dw_skip (fun _ _ _ ht => wanted_x rfl (ht 92 rfl) rfl) ?_
           refine Dw_skip (fun _ _ _ ht => wanted_x rfl (ht 92 rfl) rfl) ?_
           refine Dw_skip (fun _ _ _ ht => wanted_x rfl (ht 92 rfl) rfl) ?_
           refine Dw_skip (fun _ _ _ ht => wanted_x rfl (ht 92 rfl) rfl) ?_
           refine Dw_eq (Value.bool false) (fun ρ405 w406 g hle hi ht => ?_) ?_
           ·
            obtain ⟨-, hst, -⟩ := hle
            refine StepOp_plain (op_pick_f (v := (Value.bool false)) (ht 92 rfl) rfl ?_)
            exact Goes.same hi rfl
           refine Dw_eq (Value.bool false) (fun ρ408 w409 g hle hi ht => ?_) ?_
           ·
            obtain ⟨-, hst, -⟩ := hle
            refine StepOp_plain (op_move (v := (Value.bool false)) (ht 102 rfl) ?_)
            exact Goes.same hi rfl
           refine Dw_skip (fun _ _ _ ht => wanted_x rfl (ht 103 rfl) rfl) ?_
           refine Dw_skip (fun _ _ _ ht => wanted_x rfl (ht 103 rfl) rfl) ?_
           refine Dw_skip (fun _ _ _ ht => wanted_x rfl (ht 103 rfl) rfl) ?_
           refine Dw_nil fun w415 g416 hl417 hi418 => ?_
           obtain ⟨-, hst419, -⟩ := hl417
           obtain ⟨hs421, p420⟩ := Step.nx hi418
           rintro _ rfl
           rintro _ rfl
           rintro _ rfl
           rintro _ rfl
           rintro _ rfl
           rintro _ rfl
           rintro _ rfl
           rintro _ rfl
           rintro _ rfl
           rintro _ rfl
           rintro _ rfl
           rintro _ rfl
           rintro _ rfl
           rintro _ rfl
           rintro _ rfl
           rintro _ rfl
           rintro _ rfl
           rintro _ rfl
           rintro _ rfl
           rintro _ rfl
           rintro _ rfl
           rintro _ rfl
           rintro _ rfl
           rintro _ rfl
           rintro _ rfl
           rintro _ rfl
           rintro _ rfl
           rintro _ rfl
           rintro _ rfl
           rintro _ rfl
           rintro _ rfl
           rintro _ rfl
           rintro _ rfl
           rintro _ rfl
           rintro _ rfl
           rintro _ rfl
           rintro _ rfl
           rintro _ rfl
           rintro _ rfl
           rintro _ rfl
           rintro _ rfl
           rintro _ rfl
           rintro _ rfl
           rintro _ rfl
           rintro _ rfl
           rintro _ rfl
           rintro _ rfl
           rintro v422 h423
           replace h423 : Vr.vd (vI .i64) _ _ _ _ := h423
           obtain ⟨rfl, r_y424⟩ := h423
           rintro _ rfl
           have p425 : Step (ks [(some b43, Obj.cells [(Value.slice a_y41_records append_1.1.records.length c_y41_records), (Value.int .i64 append_1.1.many), (Value.int .i64 append_1.1.synced)].toArray 52), (some b1, Obj.cells [(Value.slice a_l_records l.records.length c_l_records), (Value.int .i64 l.many), (Value.int .i64 l.synced)].toArray 52)] O) w64 (ks [(some b43, Obj.cells [(Value.slice a_y41_records append_1.1.records.length c_y41_records), (Value.int .i64 append_1.1.many), (Value.int .i64 append_1.1.synced)].toArray 52), (some b1, Obj.cells [(Value.slice a_l_records l.records.length c_l_records), (Value.int .i64 l.many), (Value.int .i64 l.synced)].toArray 52)] O) w415 := hst419.trans p420
           replace f_l_records := f_l_records.step p425; replace f_b := f_b.step p425; replace f_y41_records := f_y41_records.step p425; replace ch88 := ch88.trans p425; clear p425 hs65
           refine Rg_opx rfl (asB_ne rfl rfl) rfl ?_
           refine Rg_op rfl (op_pick_f (v := (Value.bool false)) rfl rfl ?_)
           refine Rg_op rfl (op_assign (v := (Value.bool false)) rfl ?_)
           refine Rg_nil ?_
           exact hK82 _ _ ⟨false, _, rfl, ⟨(by repeat (first | with_reducible exact Out.refl _ _ | refine Out.upd ?_ rfl | refine Out.updL ?_ rfl | refine Out.mix' ?_ rfl | exact Out.refl _ _)), rfl, rfl, trivial⟩, ch88, hs421, hm⟩
         ·
          replace hm := bif_f hm hg132
          refine Dw_skip (fun _ _ _ ht => wanted_x rfl (ht 68 rfl) rfl) ?_
          refine Dw_skip (fun _ _ _ ht => wanted_x rfl (ht 68 rfl) rfl) ?_
          refine Dw_skip (fun _ _ _ ht => wanted_x rfl (ht 68 rfl) rfl) ?_
          refine Dw_skip (fun _ _ _ ht => wanted_x rfl (ht 68 rfl) rfl) ?_
          refine Dw_skip (fun _ _ _ ht => wanted_x rfl (ht 68 rfl) rfl) ?_
          refine Dw_eq (Value.bool false) (fun ρ426 w427 g hle hi ht => ?_) ?_
          ·
           obtain ⟨-, hst, -⟩ := hle
           refine StepOp_plain (op_pick_f (v := (Value.bool false)) (ht 68 rfl) rfl ?_)
           exact Goes.same hi rfl
          refine Dw_eq (Value.bool false) (fun ρ429 w430 g hle hi ht => ?_) ?_
          ·
           obtain ⟨-, hst, -⟩ := hle
           refine StepOp_plain (op_move (v := (Value.bool false)) (ht 74 rfl) ?_)
           exact Goes.same hi rfl
          refine Dw_skip (fun _ _ _ ht => wanted_x rfl (ht 75 rfl) rfl) ?_
          refine Dw_skip (fun _ _ _ ht => wanted_x rfl (ht 75 rfl) rfl) ?_
          refine Dw_skip (fun _ _ _ ht => wanted_x rfl (ht 75 rfl) rfl) ?_
          refine Dw_skip (fun _ _ _ ht => wanted_x rfl (ht 75 rfl) rfl) ?_
          refine Dw_skip (fun _ _ _ ht => wanted_x rfl (ht 75 rfl) rfl) ?_
          refine Dw_skip (fun _ _ _ ht => wanted_x rfl (ht 75 rfl) rfl) ?_
          refine Dw_eq (Value.bool false) (fun ρ432 w433 g hle hi ht => ?_) ?_
          ·
           obtain ⟨-, hst, -⟩ := hle
           refine StepOp_plain (op_pick_f (v := (Value.bool false)) (ht 75 rfl) rfl ?_)
           exact Goes.same hi rfl
          refine Dw_eq (Value.bool false) (fun ρ435 w436 g hle hi ht => ?_) ?_
          ·
           obtain ⟨-, hst, -⟩ := hle
           refine StepOp_plain (op_move (v := (Value.bool false)) (ht 82 rfl) ?_)
           exact Goes.same hi rfl
          refine Dw_skip (fun _ _ _ ht => wanted_x rfl (ht 83 rfl) rfl) ?_
          refine Dw_skip (fun _ _ _ ht => wanted_x rfl (ht 83 rfl) rfl) ?_
          refine Dw_skip (fun _ _ _ ht => wanted_x rfl (ht 83 rfl) rfl) ?_
          refine Dw_skip (fun _ _ _ ht => wanted_x rfl (ht 83 rfl) rfl) ?_
          refine Dw_skip (fun _ _ _ ht => wanted_x rfl (ht 83 rfl) rfl) ?_
          refine Dw_skip (fun _ _ _ ht => wanted_x rfl (ht 83 rfl) rfl) ?_
          refine Dw_skip (fun _ _ _ ht => wanted_x rfl (ht 83 rfl) rfl) ?_
          refine Dw_eq (Value.bool false) (fun ρ438 w439 g hle hi ht => ?_) ?_
          ·
           obtain ⟨-, hst, -⟩ := hle
           refine StepOp_plain (op_pick_f (v := (Value.bool false)) (ht 83 rfl) rfl ?_)
           exact Goes.same hi rfl
          refine Dw_eq (Value.bool false) (fun ρ441 w442 g hle hi ht => ?_) ?_
          ·
           obtain ⟨-, hst, -⟩ := hle
           refine StepOp_plain (op_move (v := (Value.bool false)) (ht 91 rfl) ?_)
           exact Goes.same hi rfl
          refine Dw_skip (fun _ _ _ ht => wanted_x rfl (ht 92 rfl) rfl) ?_
          refine Dw_skip (fun _ _ _ ht => wanted_x rfl (ht 92 rfl) rfl) ?_
          refine Dw_skip (fun _ _ _ ht => wanted_x rfl (ht 92 rfl) rfl) ?_
          refine Dw_skip (fun _ _ _ ht => wanted_x rfl (ht 92 rfl) rfl) ?_
          refine Dw_skip (fun _ _ _ ht => wanted_x rfl (ht 92 rfl) rfl) ?_
          refine Dw_skip (fun _ _ _ ht => wanted_x rfl (ht 92 rfl) rfl) ?_
          refine Dw_skip (fun _ _ _ ht => wanted_x rfl (ht 92 rfl) rfl) ?_
          refine Dw_skip (fun _ _ _ ht => wanted_x rfl (ht 92 rfl) rfl) ?_
          refine Dw_skip (fun _ _ _ ht => wanted_x rfl (ht 92 rfl) rfl) ?_
          refine Dw_eq (Value.bool false) (fun ρ444 w445 g hle hi ht => ?_) ?_
          ·
           obtain ⟨-, hst, -⟩ := hle
           refine StepOp_plain (op_pick_f (v := (Value.bool false)) (ht 92 rfl) rfl ?_)
           exact Goes.same hi rfl
          refine Dw_eq (Value.bool false) (fun ρ447 w448 g hle hi ht => ?_) ?_
          ·
           obtain ⟨-, hst, -⟩ := hle
           refine StepOp_plain (op_move (v := (Value.bool false)) (ht 102 rfl) ?_)
           exact Goes.same hi rfl
          refine Dw_skip (fun _ _ _ ht => wanted_x rfl (ht 103 rfl) rfl) ?_
          refine Dw_skip (fun _ _ _ ht => wanted_x rfl (ht 103 rfl) rfl) ?_
          refine Dw_skip (fun _ _ _ ht => wanted_x rfl (ht 103 rfl) rfl) ?_
          refine Dw_nil fun w454 g455 hl456 hi457 => ?_
          obtain ⟨-, hst458, -⟩ := hl456
          obtain ⟨hs460, p459⟩ := Step.nx hi457
          rintro _ rfl
          rintro _ rfl
          rintro _ rfl
          rintro _ rfl
          rintro _ rfl
          rintro _ rfl
          rintro _ rfl
          rintro _ rfl
          rintro _ rfl
          rintro _ rfl
          rintro _ rfl
          rintro _ rfl
          rintro _ rfl
          rintro _ rfl
          rintro _ rfl
          rintro _ rfl
          rintro _ rfl
          rintro _ rfl
          rintro _ rfl
          rintro _ rfl
          rintro _ rfl
          rintro _ rfl
          rintro _ rfl
          rintro _ rfl
          rintro _ rfl
          rintro _ rfl
          rintro _ rfl
          rintro _ rfl
          rintro _ rfl
          rintro _ rfl
          rintro _ rfl
          rintro _ rfl
          rintro _ rfl
          rintro _ rfl
          rintro _ rfl
          rintro _ rfl
          rintro _ rfl
          rintro _ rfl
          rintro _ rfl
          rintro _ rfl
          rintro _ rfl
          rintro _ rfl
          rintro _ rfl
          rintro _ rfl
          rintro _ rfl
          rintro _ rfl
          rintro _ rfl
          rintro v461 h462
          replace h462 : Vr.vd (vI .i64) _ _ _ _ := h462
          obtain ⟨rfl, r_y463⟩ := h462
          rintro _ rfl
          have p464 : Step (ks [(some b43, Obj.cells [(Value.slice a_y41_records append_1.1.records.length c_y41_records), (Value.int .i64 append_1.1.many), (Value.int .i64 append_1.1.synced)].toArray 52), (some b1, Obj.cells [(Value.slice a_l_records l.records.length c_l_records), (Value.int .i64 l.many), (Value.int .i64 l.synced)].toArray 52)] O) w64 (ks [(some b43, Obj.cells [(Value.slice a_y41_records append_1.1.records.length c_y41_records), (Value.int .i64 append_1.1.many), (Value.int .i64 append_1.1.synced)].toArray 52), (some b1, Obj.cells [(Value.slice a_l_records l.records.length c_l_records), (Value.int .i64 l.many), (Value.int .i64 l.synced)].toArray 52)] O) w454 := hst458.trans p459
          replace f_l_records := f_l_records.step p464; replace f_b := f_b.step p464; replace f_y41_records := f_y41_records.step p464; replace ch88 := ch88.trans p464; clear p464 hs65
          refine Rg_opx rfl (asB_ne rfl rfl) rfl ?_
          refine Rg_op rfl (op_pick_f (v := (Value.bool false)) rfl rfl ?_)
          refine Rg_op rfl (op_assign (v := (Value.bool false)) rfl ?_)
          refine Rg_nil ?_
          exact hK82 _ _ ⟨false, _, rfl, ⟨(by repeat (first | with_reducible exact Out.refl _ _ | refine Out.upd ?_ rfl | refine Out.updL ?_ rfl | refine Out.mix' ?_ rfl | exact Out.refl _ _)), rfl, rfl, trivial⟩, ch88, hs460, hm⟩
        ·
         replace hm := bif_f hm hg110
         refine Dw_skip (fun _ _ _ ht => wanted_x rfl (ht 61 rfl) rfl) ?_
         refine Dw_skip (fun _ _ _ ht => wanted_x rfl (ht 61 rfl) rfl) ?_
         refine Dw_skip (fun _ _ _ ht => wanted_x rfl (ht 61 rfl) rfl) ?_
         refine Dw_skip (fun _ _ _ ht => wanted_x rfl (ht 61 rfl) rfl) ?_
         refine Dw_skip (fun _ _ _ ht => wanted_x rfl (ht 61 rfl) rfl) ?_
         refine Dw_eq (Value.bool false) (fun ρ465 w466 g hle hi ht => ?_) ?_
         ·
          obtain ⟨-, hst, -⟩ := hle
          refine StepOp_plain (op_pick_f (v := (Value.bool false)) (ht 61 rfl) rfl ?_)
          exact Goes.same hi rfl
         refine Dw_eq (Value.bool false) (fun ρ468 w469 g hle hi ht => ?_) ?_
         ·
          obtain ⟨-, hst, -⟩ := hle
          refine StepOp_plain (op_move (v := (Value.bool false)) (ht 67 rfl) ?_)
          exact Goes.same hi rfl
         refine Dw_skip (fun _ _ _ ht => wanted_x rfl (ht 68 rfl) rfl) ?_
         refine Dw_skip (fun _ _ _ ht => wanted_x rfl (ht 68 rfl) rfl) ?_
         refine Dw_skip (fun _ _ _ ht => wanted_x rfl (ht 68 rfl) rfl) ?_
         refine Dw_skip (fun _ _ _ ht => wanted_x rfl (ht 68 rfl) rfl) ?_
         refine Dw_skip (fun _ _ _ ht => wanted_x rfl (ht 68 rfl) rfl) ?_
         refine Dw_eq (Value.bool false) (fun ρ471 w472 g hle hi ht => ?_) ?_
         ·
          obtain ⟨-, hst, -⟩ := hle
          refine StepOp_plain (op_pick_f (v := (Value.bool false)) (ht 68 rfl) rfl ?_)
          exact Goes.same hi rfl
         refine Dw_eq (Value.bool false) (fun ρ474 w475 g hle hi ht => ?_) ?_
         ·
          obtain ⟨-, hst, -⟩ := hle
          refine StepOp_plain (op_move (v := (Value.bool false)) (ht 74 rfl) ?_)
          exact Goes.same hi rfl
         refine Dw_skip (fun _ _ _ ht => wanted_x rfl (ht 75 rfl) rfl) ?_
         refine Dw_skip (fun _ _ _ ht => wanted_x rfl (ht 75 rfl) rfl) ?_
         refine Dw_skip (fun _ _ _ ht => wanted_x rfl (ht 75 rfl) rfl) ?_
         refine Dw_skip (fun _ _ _ ht => wanted_x rfl (ht 75 rfl) rfl) ?_
         refine Dw_skip (fun _ _ _ ht => wanted_x rfl (ht 75 rfl) rfl) ?_
         refine Dw_skip (fun _ _ _ ht => wanted_x rfl (ht 75 rfl) rfl) ?_
         refine Dw_eq (Value.bool false) (fun ρ477 w478 g hle hi ht => ?_) ?_
         ·
          obtain ⟨-, hst, -⟩ := hle
          refine StepOp_plain (op_pick_f (v := (Value.bool false)) (ht 75 rfl) rfl ?_)
          exact Goes.same hi rfl
         refine Dw_eq (Value.bool false) (fun ρ480 w481 g hle hi ht => ?_) ?_
         ·
          obtain ⟨-, hst, -⟩ := hle
          refine StepOp_plain (op_move (v := (Value.bool false)) (ht 82 rfl) ?_)
          exact Goes.same hi rfl
         refine Dw_skip (fun _ _ _ ht => wanted_x rfl (ht 83 rfl) rfl) ?_
         refine Dw_skip (fun _ _ _ ht => wanted_x rfl (ht 83 rfl) rfl) ?_
         refine Dw_skip (fun _ _ _ ht => wanted_x rfl (ht 83 rfl) rfl) ?_
         refine Dw_skip (fun _ _ _ ht => wanted_x rfl (ht 83 rfl) rfl) ?_
         refine Dw_skip (fun _ _ _ ht => wanted_x rfl (ht 83 rfl) rfl) ?_
         refine Dw_skip (fun _ _ _ ht => wanted_x rfl (ht 83 rfl) rfl) ?_
         refine Dw_skip (fun _ _ _ ht => wanted_x rfl (ht 83 rfl) rfl) ?_
         refine Dw_eq (Value.bool false) (fun ρ483 w484 g hle hi ht => ?_) ?_
         ·
          obtain ⟨-, hst, -⟩ := hle
          refine StepOp_plain (op_pick_f (v := (Value.bool false)) (ht 83 rfl) rfl ?_)
          exact Goes.same hi rfl
         refine Dw_eq (Value.bool false) (fun ρ486 w487 g hle hi ht => ?_) ?_
         ·
          obtain ⟨-, hst, -⟩ := hle
          refine StepOp_plain (op_move (v := (Value.bool false)) (ht 91 rfl) ?_)
          exact Goes.same hi rfl
         refine Dw_skip (fun _ _ _ ht => wanted_x rfl (ht 92 rfl) rfl) ?_
         refine Dw_skip (fun _ _ _ ht => wanted_x rfl (ht 92 rfl) rfl) ?_
         refine Dw_skip (fun _ _ _ ht => wanted_x rfl (ht 92 rfl) rfl) ?_
         refine Dw_skip (fun _ _ _ ht => wanted_x rfl (ht 92 rfl) rfl) ?_
         refine Dw_skip (fun _ _ _ ht => wanted_x rfl (ht 92 rfl) rfl) ?_
         refine Dw_skip (fun _ _ _ ht => wanted_x rfl (ht 92 rfl) rfl) ?_
         refine Dw_skip (fun _ _ _ ht => wanted_x rfl (ht 92 rfl) rfl) ?_
         refine Dw_skip (fun _ _ _ ht => wanted_x rfl (ht 92 rfl) rfl) ?_
         refine Dw_skip (fun _ _ _ ht => wanted_x rfl (ht 92 rfl) rfl) ?_
         refine Dw_eq (Value.bool false) (fun ρ489 w490 g hle hi ht => ?_) ?_
         ·
          obtain ⟨-, hst, -⟩ := hle
          refine StepOp_plain (op_pick_f (v := (Value.bool false)) (ht 92 rfl) rfl ?_)
          exact Goes.same hi rfl
         refine Dw_eq (Value.bool false) (fun ρ492 w493 g hle hi ht => ?_) ?_
         ·
          obtain ⟨-, hst, -⟩ := hle
          refine StepOp_plain (op_move (v := (Value.bool false)) (ht 102 rfl) ?_)
          exact Goes.same hi rfl
         refine Dw_skip (fun _ _ _ ht => wanted_x rfl (ht 103 rfl) rfl) ?_
         refine Dw_skip (fun _ _ _ ht => wanted_x rfl (ht 103 rfl) rfl) ?_
         refine Dw_skip (fun _ _ _ ht => wanted_x rfl (ht 103 rfl) rfl) ?_
         refine Dw_nil fun w499 g500 hl501 hi502 => ?_
         obtain ⟨-, hst503, -⟩ := hl501
         obtain ⟨hs505, p504⟩ := Step.nx hi502
         rintro _ rfl
         rintro _ rfl
         rintro _ rfl
         rintro _ rfl
         rintro _ rfl
         rintro _ rfl
         rintro _ rfl
         rintro _ rfl
         rintro _ rfl
         rintro _ rfl
         rintro _ rfl
         rintro _ rfl
         rintro _ rfl
         rintro _ rfl
         rintro _ rfl
         rintro _ rfl
         rintro _ rfl
         rintro _ rfl
         rintro _ rfl
         rintro _ rfl
         rintro _ rfl
         rintro _ rfl
         rintro _ rfl
         rintro _ rfl
         rintro _ rfl
         rintro _ rfl
         rintro _ rfl
         rintro _ rfl
         rintro _ rfl
         rintro _ rfl
         rintro _ rfl
         rintro _ rfl
         rintro _ rfl
         rintro _ rfl
         rintro _ rfl
         rintro _ rfl
         rintro _ rfl
         rintro _ rfl
         rintro _ rfl
         rintro _ rfl
         rintro _ rfl
         rintro _ rfl
         rintro _ rfl
         rintro _ rfl
         rintro _ rfl
         rintro _ rfl
         rintro _ rfl
         rintro v506 h507
         replace h507 : Vr.vd (vI .i64) _ _ _ _ := h507
         obtain ⟨rfl, r_y508⟩ := h507
         rintro _ rfl
         have p509 : Step (ks [(some b43, Obj.cells [(Value.slice a_y41_records append_1.1.records.length c_y41_records), (Value.int .i64 append_1.1.many), (Value.int .i64 append_1.1.synced)].toArray 52), (some b1, Obj.cells [(Value.slice a_l_records l.records.length c_l_records), (Value.int .i64 l.many), (Value.int .i64 l.synced)].toArray 52)] O) w64 (ks [(some b43, Obj.cells [(Value.slice a_y41_records append_1.1.records.length c_y41_records), (Value.int .i64 append_1.1.many), (Value.int .i64 append_1.1.synced)].toArray 52), (some b1, Obj.cells [(Value.slice a_l_records l.records.length c_l_records), (Value.int .i64 l.many), (Value.int .i64 l.synced)].toArray 52)] O) w499 := hst503.trans p504
         replace f_l_records := f_l_records.step p509; replace f_b := f_b.step p509; replace f_y41_records := f_y41_records.step p509; replace ch88 := ch88.trans p509; clear p509 hs65
         refine Rg_opx rfl (asB_ne rfl rfl) rfl ?_
         refine Rg_op rfl (op_pick_f (v := (Value.bool false)) rfl rfl ?_)
         refine Rg_op rfl (op_assign (v := (Value.bool false)) rfl ?_)
         refine Rg_nil ?_
         exact hK82 _ _ ⟨false, _, rfl, ⟨(by repeat (first | with_reducible exact Out.refl _ _ | refine Out.upd ?_ rfl | refine Out.updL ?_ rfl | refine Out.mix' ?_ rfl | exact Out.refl _ _)), rfl, rfl, trivial⟩, ch88, hs505, hm⟩
    ·
     intro K63 hK63
     have ch510 := Step.refl (ks [(some b43, Obj.cells [(Value.slice a_y41_records append_1.1.records.length c_y41_records), (Value.int .i64 append_1.1.many), (Value.int .i64 append_1.1.synced)].toArray 52), (some b1, Obj.cells [(Value.slice a_l_records l.records.length c_l_records), (Value.int .i64 l.many), (Value.int .i64 l.synced)].toArray 52)] O) w53
     refine Wp_region ?_
     refine Rg_op rfl (op_move (v := (Value.int .i64 append_1.2)) rfl ?_)
     refine Rg_op rfl (op_eql rfl rfl ?_)
     refine Rg_op rfl (op_move (v := (Value.int .i64 room_1)) rfl ?_)
     refine Rg_op rfl (op_gtr rfl rfl ?_)
     refine Rg_op rfl (op_move (v := (Value.bool (decide (0 < room_1)))) rfl ?_)
     refine Rg_case (fun hg511 => ?_) (fun hg511 => ?_)
     ·
      replace hm := bif_t hm hg511
      refine Rg_opg rfl rfl rfl (op_move (v := (Value.slice a_b b.length c_b)) rfl ?_)
      refine Rg_opg rfl rfl rfl (op_len Try.underlying41 rfl ?_)
      have rl512 := inK_len f_b
      refine Rg_opg rfl rfl rfl (op_move (v := (Value.int .i64 room_1)) rfl ?_)
      refine Rg_opg rfl rfl rfl (op_leq rfl rfl ?_)
      refine Rg_op rfl (op_pick_t (v := (Value.bool (decide ((b.length : Int) ≤ room_1)))) rfl rfl ?_)
      refine Rg_op rfl (op_neqb Try.underlying4 rfl rfl ?_)
      refine Rg_nil ?_
      exact hK63 _ _ ⟨(!((decide (append_1.2 = 0)) == (decide ((b.length : Int) ≤ room_1)))), _, rfl, ⟨(by repeat (first | with_reducible exact Out.refl _ _ | refine Out.upd ?_ rfl | refine Out.updL ?_ rfl | refine Out.mix' ?_ rfl | exact Out.refl _ _)), rfl, rfl, trivial⟩, ch510, hs56, hm⟩
     ·
      replace hm := bif_f hm hg511
      iterate 4 refine Rg_opx rfl (asB_ne rfl rfl) rfl ?_
      refine Rg_op rfl (op_pick_f (v := (Value.bool false)) rfl rfl ?_)
      refine Rg_op rfl (op_neqb Try.underlying4 rfl rfl ?_)
      refine Rg_nil ?_
      exact hK63 _ _ ⟨(!((decide (append_1.2 = 0)) == false)), _, rfl, ⟨(by repeat (first | with_reducible exact Out.refl _ _ | refine Out.upd ?_ rfl | refine Out.updL ?_ rfl | refine Out.mix' ?_ rfl | exact Out.refl _ _)), rfl, rfl, trivial⟩, ch510, hs56, hm⟩
  ·
   intro K21 hK21
   have ch513 := Step.refl (ks [(some b1, Obj.cells [(Value.slice a_l_records l.records.length c_l_records), (Value.int .i64 l.many), (Value.int .i64 l.synced)].toArray 52)] O) w8
   refine Wp_region ?_
   refine Rg_op rfl (op_build (vs := [(Value.slice none 0 0), (Value.slice none 0 0), (Value.int .i64 0), (Value.bool false)]) (parts := []) ty25 pl25 rfl ?_)
   refine Rg_op rfl (op_fieldAddr ty52 rfl ty22 (by decide) rfl (rfl : _ = (⟨_, 0, none⟩ : Addr)) ?_)
   refine Rg_op rfl (op_load (cs := [(Value.slice a_l_records l.records.length c_l_records), (Value.int .i64 l.many), (Value.int .i64 l.synced)]) (i := 0) ty22 hs11 rfl rfl rfl ?_)
   replace hm := bd hm; obtain ⟨few_1, hv514, hm⟩ := hm
   refine Rg_op rfl (op_call Try.call29 (c29_overflightlaw45_few (d := (⟨([] : List (List UInt8)), ([] : List XWrite), 0, false⟩ : XDisk)) (records := l.records) hs11.ltw SlR.nil_ SlR.nil_ (show InK .i64 0 from by decide) f_l_records hv514) rfl ?_)
   rintro v515 w516 ⟨hx517, h518⟩
   have hs519 := hs11.call hx517
   have p520 := Step.ext (O := ks [(some b1, Obj.cells [(Value.slice a_l_records l.records.length c_l_records), (Value.int .i64 l.many), (Value.int .i64 l.synced)].toArray 52)] O) hx517
   clear hx517
   replace f_l_records := f_l_records.step p520; replace f_b := f_b.step p520; replace ch513 := ch513.trans p520; clear p520 hs11
   obtain rfl := h518
   refine Rg_op rfl (op_not rfl ?_)
   refine Rg_op rfl (op_move (v := (Value.bool (!few_1))) rfl ?_)
   refine Rg_case (fun hg522 => ?_) (fun hg522 => ?_)
   ·
    replace hm := bif_t hm hg522
    iterate 3 refine Rg_opx rfl (asB_ne rfl rfl) rfl ?_
    refine Rg_op rfl (op_pick_t (v := (Value.bool true)) rfl rfl ?_)
    refine Rg_op rfl (op_move (v := (Value.bool true)) rfl ?_)
    iterate 3 refine Rg_opx rfl (asB_ne rfl rfl) rfl ?_
    refine Rg_op rfl (op_pick_t (v := (Value.bool true)) rfl rfl ?_)
    refine Rg_nil ?_
    exact hK21 _ _ ⟨true, _, rfl, ⟨(by repeat (first | with_reducible exact Out.refl _ _ | refine Out.upd ?_ rfl | refine Out.updL ?_ rfl | refine Out.mix' ?_ rfl | exact Out.refl _ _)), rfl, rfl, trivial⟩, ch513, hs519, hm⟩
   ·
    replace hm := bif_f hm hg522
    refine Rg_opg rfl rfl rfl (op_move (v := (Value.slice a_b b.length c_b)) rfl ?_)
    refine Rg_opg rfl rfl rfl (op_len Try.underlying41 rfl ?_)
    have rl523 := inK_len f_b
    refine Rg_opg rfl rfl rfl (op_gtr rfl rfl ?_)
    refine Rg_op rfl (op_pick_f (v := (Value.bool (decide (70000 < (b.length : Int))))) rfl rfl ?_)
    refine Rg_op rfl (op_move (v := (Value.bool (decide (70000 < (b.length : Int))))) rfl ?_)
    refine Rg_case (fun hg524 => ?_) (fun hg524 => ?_)
    ·
     replace hm := bif_t hm hg524
     iterate 3 refine Rg_opx rfl (asB_ne rfl rfl) rfl ?_
     refine Rg_op rfl (op_pick_t (v := (Value.bool true)) rfl rfl ?_)
     refine Rg_nil ?_
     exact hK21 _ _ ⟨true, _, rfl, ⟨(by repeat (first | with_reducible exact Out.refl _ _ | refine Out.upd ?_ rfl | refine Out.updL ?_ rfl | refine Out.mix' ?_ rfl | exact Out.refl _ _)), rfl, rfl, trivial⟩, ch513, hs519, hm⟩
    ·
     replace hm := bif_f hm hg524
     refine Rg_opg rfl rfl rfl (op_loadA (cs := [(Value.slice a_l_records l.records.length c_l_records), (Value.int .i64 l.many), (Value.int .i64 l.synced)]) (vs := [(Value.slice a_l_records l.records.length c_l_records), (Value.int .i64 l.many), (Value.int .i64 l.synced)]) (i := 0) ty52 hs519 rfl rfl rfl rfl ?_)
     replace hm := bd hm; obtain ⟨check_2, hv525, hm⟩ := hm
     refine Rg_opg rfl rfl rfl (op_call Try.call32 (c32_journal_Check (l := l) hs519.ltw f_l_records r_l_many r_l_synced hv525) rfl ?_)
     rintro v526 w527 ⟨hx528, h529⟩
     have hs530 := hs519.call hx528
     have p531 := Step.ext (O := ks [(some b1, Obj.cells [(Value.slice a_l_records l.records.length c_l_records), (Value.int .i64 l.many), (Value.int .i64 l.synced)].toArray 52)] O) hx528
     clear hx528
     replace f_l_records := f_l_records.step p531; replace f_b := f_b.step p531; replace ch513 := ch513.trans p531; clear p531 hs519
     obtain ⟨rfl, r_y532⟩ := h529
     refine Rg_opg rfl rfl rfl (op_neq rfl rfl ?_)
     refine Rg_op rfl (op_pick_f (v := (Value.bool (decide (check_2 ≠ 0)))) rfl rfl ?_)
     refine Rg_nil ?_
     exact hK21 _ _ ⟨(decide (check_2 ≠ 0)), _, rfl, ⟨(by repeat (first | with_reducible exact Out.refl _ _ | refine Out.upd ?_ rfl | refine Out.updL ?_ rfl | refine Out.mix' ?_ rfl | exact Out.refl _ _)), rfl, rfl, trivial⟩, ch513, hs530, hm⟩

end Go.Fx



/- What the models of functions compute: loops over lists, checks, meetings. No program in sight. -/
set_option linter.unusedSimpArgs false
set_option linter.unusedVariables false
namespace Go.Fx
open Go Go.RowKit

section
variable {R α σ : Type}
@[simp] theorem jn_eq {κ : Type _} (k : κ) (f : κ → Option R) : jn k f = f k := rfl
theorem ck_eq {c : Prop} [Decidable c] {m : Option R} (h : c) : ck c m = m := if_pos h
@[simp] theorem ck_True {m : Option R} : ck True m = m := if_pos trivial
theorem wrapN {i : Nat} (h : i < 9223372036854775808) : IntKind.i64.wrap (i : Int) = (i : Int) := wrap_i64 (by omega) (by omega)
theorem wrapS {i : Nat} (h : i + 1 < 9223372036854775808) : IntKind.i64.wrap ((i : Int) + 1) = (i : Int) + 1 := wrap_i64 (by omega) (by omega)
/-- a loop that goes up an index over a list: L fuel index state -/
theorem up_list {L : Nat → Int → σ → Option R} (I : Nat → σ → Prop) (F : Nat → List α → σ → Option R) (l : List α) (hl : l.length < 9223372036854775807)
    (hE : ∀ n s, I l.length s → L (n + 1) (l.length : Nat) s = F l.length [] s)
    (hS : ∀ n (i : Nat) s x t, i < l.length → l[i]? = some x → IntKind.i64.wrap ((i : Int) + 1) = (i : Int) + 1 → I i s →
      (∀ s, I (i + 1) s → L n ((i : Int) + 1) s = F (i + 1) t s) → L (n + 1) (i : Int) s = F i (x :: t) s) :
    ∀ (fuel : Nat) s, l.length < fuel → I 0 s → L fuel 0 s = F 0 l s := by
  have main : ∀ (t : List α) (i fuel : Nat) s, l.drop i = t → i ≤ l.length → l.length - i < fuel → I i s → L fuel (i : Int) s = F i t s := by
    intro t
    induction t with
    | nil =>
      intro i fuel s hd hi hf hI
      have : i = l.length := by have := congrArg List.length hd; simp at this; omega
      subst this
      obtain ⟨n, rfl⟩ : ∃ n, fuel = n + 1 := ⟨fuel - 1, by omega⟩
      exact hE n s hI
    | cons x t ih =>
      intro i fuel s hd hi hf hI
      have hlt : i < l.length := by have := congrArg List.length hd; simp at this; omega
      obtain ⟨n, rfl⟩ : ∃ n, fuel = n + 1 := ⟨fuel - 1, by omega⟩
      have hx : l[i]? = some x := by rw [← List.head?_drop, hd]; rfl
      refine hS n i s x t hlt hx (wrapS (by omega)) hI fun s' hI' => (ih (i + 1) n s' ?_ (by omega) (by omega) hI')
      rw [← List.drop_drop, hd]; rfl
  intro fuel s hf hI
  exact main l 0 fuel s rfl (by omega) (by omega) hI

theorem getD_of {l : List α} {i : Nat} {x d : α} (h : l[i]? = some x) : l.getD i d = x := by simp [List.getD, h]

/-- a state first, then the index -/
theorem up_listB {B : (σ → Int → Option R) → σ → Int → Option R} (I : Nat → σ → Prop) (F : Nat → List α → σ → Option R) (l : List α) (hl : l.length < 9223372036854775807)
    (hE : ∀ sf s, I l.length s → B sf s (l.length : Nat) = F l.length [] s)
    (hS : ∀ sf (i : Nat) s x t, i < l.length → l[i]? = some x → IntKind.i64.wrap ((i : Int) + 1) = (i : Int) + 1 → I i s →
      (∀ s, I (i + 1) s → sf s ((i : Int) + 1) = F (i + 1) t s) → B sf s (i : Int) = F i (x :: t) s)
    {fuel : Nat} {s : σ} (hf : l.length < fuel) (hI : I 0 s) : loop2 B fuel s 0 = F 0 l s := by
  refine up_list (L := fun n i s => loop2 B n s i) I F l hl ?_ ?_ fuel s hf hI
  · intro n s h; show loop2 B (n + 1) _ _ = _; rw [loop2_succ]; exact hE _ _ h
  · intro n i s x t h1 h2 h3 h4 ih; show loop2 B (n + 1) _ _ = _; rw [loop2_succ]; exact hS _ i s x t h1 h2 h3 h4 ih

/-- the same, where the answer needs the index -/
theorem up_listI {B : (Int → Option R) → Int → Option R} (F : Nat → List α → Option R) (l : List α) (hl : l.length < 9223372036854775807)
    (hE : ∀ sf, B sf (l.length : Nat) = F l.length [])
    (hS : ∀ sf (i : Nat) x t, i < l.length → l[i]? = some x → IntKind.i64.wrap ((i : Int) + 1) = (i : Int) + 1 →
      sf ((i : Int) + 1) = F (i + 1) t → B sf (i : Int) = F i (x :: t))
    {fuel : Nat} (hf : l.length < fuel) : loop1 B fuel 0 = F 0 l := by
  refine up_list (L := fun n i (_ : Unit) => loop1 B n i) (fun _ _ => True) (fun i t _ => F i t) l hl ?_ ?_ fuel () hf trivial
  · intro n _ _; show loop1 B (n + 1) _ = _; rw [loop1_succ]; exact hE _
  · intro n i _ x t h1 h2 h3 _ ih; show loop1 B (n + 1) _ = _; rw [loop1_succ]; exact hS _ i x t h1 h2 h3 (ih () trivial)
end
end Go.Fx



set_option linter.unusedVariables false
set_option linter.unusedSimpArgs false
set_option maxRecDepth 100000
set_option maxHeartbeats 0
namespace Go.Fx
open Go Go.RowKit Go.Proofs
end Go.Fx



set_option linter.unusedVariables false
set_option linter.unusedSimpArgs false
set_option maxRecDepth 100000
set_option maxHeartbeats 0
namespace Go.Fx
open Go Go.RowKit Go.Proofs
end Go.Fx



set_option linter.unusedVariables false
set_option linter.unusedSimpArgs false
set_option maxRecDepth 100000
set_option maxHeartbeats 0
namespace Go.Fx
open Go Go.RowKit Go.Proofs
end Go.Fx



set_option linter.unusedVariables false
set_option linter.unusedSimpArgs false
set_option maxRecDepth 100000
set_option maxHeartbeats 0
namespace Go.Fx
open Go Go.RowKit Go.Proofs
end Go.Fx



set_option linter.unusedVariables false
set_option linter.unusedSimpArgs false
set_option maxRecDepth 100000
set_option maxHeartbeats 0
namespace Go.Fx
open Go Go.RowKit Go.Proofs
end Go.Fx



set_option linter.unusedVariables false
set_option linter.unusedSimpArgs false
set_option maxRecDepth 100000
set_option maxHeartbeats 0
namespace Go.Fx
open Go Go.RowKit Go.Proofs
end Go.Fx



/- Chapter 45: what Check, Room and Append compute. -/
set_option linter.unusedSimpArgs false
set_option linter.unusedVariables false
namespace Go.Fx
open Go Go.RowKit
theorem ipos {l n : Nat} (h : n < l) : ((n : Int) < (l : Int)) := by omega
theorem sane45 : m28_overflightlaw45_sane = some true := by kernel_rfl
/-- sectors of a record of so many bytes -/
def secI (n : Int) : Int := max 1 (IntKind.wrap .i64 ((IntKind.wrap .i64 ((IntKind.wrap .i64 (n + 112)) - 1)).tdiv 112))
def usedF : Int → List (List UInt8) → Int
  | s, [] => s
  | s, x :: t => usedF (IntKind.wrap .i64 (s + secI (x.length : Int))) t
theorem m54_eq (b : List UInt8) : m54_journal_sectors b = some (secI (b.length : Int)) := rfl
theorem m55_eq (l : List (List UInt8)) (hl : l.length < 9223372036854775807) : m55_journal_used l = some (usedF 0 l) := by
  unfold m55_journal_used
  refine up_listB (B := m55_journal_used_B0 l) (σ := Int) (fun _ _ => True) (fun _ t s => some (usedF s t)) l hl ?_ ?_ (by omega) trivial
  · intro sf s _; unfold m55_journal_used_B0
    rw [decide_eq_false (Int.lt_irrefl _)]; rfl
  · intro sf i s x t h1 h2 h3 _ ih
    unfold m55_journal_used_B0
    have g1 : l.getD (i : Int).toNat default = x := getD_of h2
    rw [decide_eq_true (ipos h1), cond_true, ck_eq (by omega), g1, m54_eq, Option.bind_some, h3, ih _ trivial]; rfl
/-- what Check looks for -/
def badJ (l : XJournal) : Bool := decide (l.many < 1) || (decide (4096 < l.many) || (decide (l.synced < 0) || (decide ((l.records.length : Int) < l.synced) || decide (l.many < usedF 0 l.records))))
theorem m32_eq (l : XJournal) (hl : l.records.length < 9223372036854775807) : m32_journal_Check l = some (bif badJ l then 1 else 0) := by
  unfold m32_journal_Check badJ
  simp only [jn_eq]
  rw [m55_eq _ hl, Option.bind_some]
  cases decide (l.many < 1) <;> cases decide (4096 < l.many) <;> cases decide (l.synced < 0) <;> cases decide ((l.records.length : Int) < l.synced) <;> cases decide (l.many < usedF 0 l.records) <;> rfl
def roomJ (l : XJournal) : Int := bif badJ l then 0 else IntKind.wrap .i64 (112 * (IntKind.wrap .i64 (l.many - usedF 0 l.records)))
theorem m34_eq (l : XJournal) (hl : l.records.length < 9223372036854775807) : m34_journal_Room l = some (roomJ l) := by
  unfold m34_journal_Room roomJ
  rw [m32_eq l hl, m55_eq _ hl]
  cases badJ l <;> rfl
def appJ (l : XJournal) (b : List UInt8) : XJournal × Int :=
  bif badJ l then (⟨[], 0, 0⟩, 1) else bif decide ((IntKind.wrap .i64 (l.many - usedF 0 l.records)) < secI (b.length : Int)) then (⟨[], 0, 0⟩, 2) else (⟨l.records ++ [b], l.many, l.synced⟩, 0)
theorem m56_eq (s : List (List UInt8)) : m56_slices_Clipbyte_byte_ s = some s := by
  unfold m56_slices_Clipbyte_byte_
  rw [ck_eq (by omega), List.drop_zero, Nat.sub_zero, List.take_length]
theorem m52_eq (s : List UInt8) (h : s.length ≤ 140737488351232) : m52_slices_Clonebyte_byte_ s = some s := by
  unfold m52_slices_Clonebyte_byte_
  rw [ck_eq (by simp; omega)]; rfl
theorem m30_eq (l : XJournal) (b : List UInt8) (hl : l.records.length * 24 ≤ 140737488351232) (hb : b.length ≤ 140737488351232) : m30_journal_Append l b = some (appJ l b) := by
  unfold m30_journal_Append appJ
  rw [m32_eq l (by omega), m54_eq, m55_eq _ (by omega), m56_eq, m52_eq b hb]
  cases badJ l
  · simp only [Option.bind_some, cond_false, ne_eq, not_true_eq_false, decide_false]
    cases decide ((IntKind.wrap .i64 (l.many - usedF 0 l.records)) < secI (b.length : Int))
    · rw [cond_false, cond_false, ck_eq (by simp; omega)]
    · rfl
  · rfl
theorem m37_eq (a b : List (List UInt8)) (ha : a.length < 9223372036854775807) : m37_overflightref45_SameRecords a b = some (decide (a = b)) := by
  unfold m37_overflightref45_SameRecords
  by_cases hl : a.length = b.length
  · rw [decide_eq_false (show ¬ ((a.length : Int) ≠ b.length) by omega), cond_false]
    refine (up_listI (B := m37_overflightref45_SameRecords_B0 a b) (fun i t => some (decide (t = b.drop i))) a ha ?_ ?_ (by omega)).trans (by simp)
    · intro sf; unfold m37_overflightref45_SameRecords_B0
      rw [decide_eq_false (Int.lt_irrefl _), cond_false, hl, List.drop_length]; rfl
    · intro sf i x t h1 h2 h3 ih
      obtain ⟨_, rfl⟩ := List.getElem?_eq_some_iff.1 h2
      unfold m37_overflightref45_SameRecords_B0
      have g1 : a.getD (i : Int).toNat default = a[i] := by simp [h1]
      have hb' : i < b.length := by omega
      have g2 : b.getD (i : Int).toNat default = b[i] := by simp [hb']
      rw [decide_eq_true (ipos h1), cond_true, ck_eq (by omega), ck_eq (by omega), g1, g2, h3, ih, List.drop_eq_getElem_cons hb']
      by_cases e : a[i] = b[i]
      · rw [decide_eq_false (fun h => h e), cond_false, e]
        congr 1
        rw [Bool.eq_iff_iff, decide_eq_true_iff, decide_eq_true_iff]
        constructor
        · rintro rfl; rfl
        · intro h; exact (List.cons.inj h).2
      · rw [decide_eq_true e, cond_true, decide_eq_false]
        intro h; exact e (List.cons.inj h).1
  · rw [decide_eq_true (show (a.length : Int) ≠ b.length by omega), cond_true, decide_eq_false (fun e => hl (by rw [e]))]
def sumF : Int → List (List UInt8) → Int
  | s, [] => s
  | s, x :: t => sumF (IntKind.wrap .i64 (s + IntKind.wrap .i64 (1 + (x.length : Int)))) t
def fewJ (d : XDisk) (records : List (List UInt8)) : Bool := decide ((d.sectors.length : Int) ≤ 40) && (decide ((d.pending.length : Int) ≤ 40) && decide (sumF 0 records ≤ 4000))
theorem m29_eq (d : XDisk) (l : List (List UInt8)) (hl : l.length < 9223372036854775807) : m29_overflightlaw45_few d l = some (fewJ d l) := by
  unfold m29_overflightlaw45_few fewJ
  refine up_listB (B := m29_overflightlaw45_few_B0 d l) (σ := Int) (fun _ _ => True) (fun _ t s => some (decide ((d.sectors.length : Int) ≤ 40) && (decide ((d.pending.length : Int) ≤ 40) && decide (sumF s t ≤ 4000)))) l hl ?_ ?_ (by omega) trivial
  · intro sf s _; unfold m29_overflightlaw45_few_B0
    rw [decide_eq_false (Int.lt_irrefl _), cond_false]
    cases decide ((d.sectors.length : Int) ≤ 40) <;> cases decide ((d.pending.length : Int) ≤ 40) <;> rfl
  · intro sf i s x t h1 h2 h3 _ ih
    unfold m29_overflightlaw45_few_B0
    have g1 : l.getD (i : Int).toNat default = x := getD_of h2
    rw [decide_eq_true (ipos h1), cond_true, ck_eq (by omega), g1, h3, ih _ trivial]; rfl
end Go.Fx



/- JournalRoom, where what comes in is small. -/
set_option linter.unusedSimpArgs false
set_option linter.unusedVariables false
namespace Go.Fx
open Go Go.RowKit
/-- sectors of n bytes -/
def secN (n : Nat) : Nat := max 1 ((n + 111) / 112)
theorem secN_eq {n : Nat} (h : n ≤ 1048576) : secI (n : Int) = (secN n : Int) := by
  unfold secI secN
  rw [wrap_i64 (m := (n : Int) + 112) (by omega) (by omega), wrap_i64 (m := (n : Int) + 112 - 1) (by omega) (by omega)]
  have e : ((n : Int) + 112 - 1).tdiv 112 = (((n + 111) / 112 : Nat) : Int) := by
    rw [show (n : Int) + 112 - 1 = ((n + 111 : Nat) : Int) by omega]; rfl
  rw [e, wrap_i64 (by omega) (by omega)]
  omega
theorem secN_le (n : Nat) : secN n ≤ 1 + n := by unfold secN; omega
def usedN (l : List (List UInt8)) : Nat := (l.map fun b => secN b.length).sum
theorem usedF_eq : ∀ (l : List (List UInt8)) (s : Nat), s + (l.map fun b => 1 + b.length).sum ≤ 4194304 → (∀ b ∈ l, b.length ≤ 1048576) → usedF (s : Int) l = ((s + usedN l : Nat) : Int)
  | [], s, _, _ => by simp [usedF, usedN]
  | b :: t, s, h, hb => by
    have h1 := hb b List.mem_cons_self
    simp only [List.map_cons, List.sum_cons] at h
    have h2 := secN_le b.length
    unfold usedF
    rw [secN_eq h1, wrap_i64 (by omega) (by omega), show (s : Int) + (secN b.length : Int) = ((s + secN b.length : Nat) : Int) by omega,
      usedF_eq t (s + secN b.length) (by omega) fun c hc => hb c (List.mem_cons_of_mem _ hc)]
    unfold usedN
    simp only [List.map_cons, List.sum_cons]
    omega
theorem sum_mem {l : List (List UInt8)} {b : List UInt8} (h : b ∈ l) : 1 + b.length ≤ (l.map fun b => 1 + b.length).sum := by
  induction l with
  | nil => cases h
  | cons x t ih =>
    simp only [List.map_cons, List.sum_cons]
    rcases List.mem_cons.1 h with rfl | h
    · omega
    · have := ih h; omega
theorem sum_len (l : List (List UInt8)) : l.length ≤ (l.map fun b => 1 + b.length).sum := by
  induction l with
  | nil => simp
  | cons x t ih => simp only [List.map_cons, List.sum_cons, List.length_cons]; omega
theorem usedN_app (l : List (List UInt8)) (b : List UInt8) : usedN (l ++ [b]) = usedN l + secN b.length := by simp [usedN]
theorem ones (b : List UInt8) : (b.map fun _ => 1).sum = b.length := by induction b <;> simp_all <;> omega
theorem JournalRoom_law (l : XJournal) (b : List UInt8) (hl' : 1 + (l.records.map fun b => 1 + (b.map fun _ => 1).sum).sum ≤ 1048576) (hb' : 1 + (b.map fun _ => 1).sum ≤ 1048576) : m9_overflightlaw45_JournalRoom l b = some true := by
  simp only [ones] at hl' hb'
  have hlen := sum_len l.records
  have hmem : ∀ x ∈ l.records, x.length ≤ 1048576 := fun x hx => by have := sum_mem hx; omega
  have hU : usedF 0 l.records = (usedN l.records : Int) := by
    have := usedF_eq l.records 0 (by omega) hmem
    simpa using this
  have hU' : usedF 0 (l.records ++ [b]) = ((usedN l.records + secN b.length : Nat) : Int) := by
    have := usedF_eq (l.records ++ [b]) 0 (by simp only [List.map_append, List.sum_append, List.map_cons, List.map_nil, List.sum_cons, List.sum_nil]; omega) (fun x hx => by
      rcases List.mem_append.1 hx with hx | hx
      · exact hmem x hx
      · rw [List.mem_singleton.1 hx]; omega)
    rw [usedN_app] at this
    simpa using this
  unfold m9_overflightlaw45_JournalRoom
  rw [sane45, m29_eq _ _ (by omega)]
  simp only [Option.bind_some, Bool.not_true, cond_false, jn_eq]
  cases fewJ (⟨([] : List (List UInt8)), ([] : List XWrite), 0, false⟩ : XDisk) l.records
  · rfl
  rw [m30_eq l b (by omega) (by omega), m32_eq l (by omega), m34_eq l (by omega)]
  simp only [Option.bind_some, Bool.not_true, cond_false]
  by_cases c1 : 70000 < (b.length : Int)
  · rw [decide_eq_true c1]; rfl
  rw [decide_eq_false c1, cond_false]
  cases hbad : badJ l
  rotate_left
  · rfl
  simp only [cond_false]
  rw [decide_eq_false (show ¬ ((0 : Int) ≠ 0) by decide), cond_false]
  have hp := hbad
  unfold badJ at hp
  simp only [Bool.or_eq_false_iff, decide_eq_false_iff_not] at hp
  obtain ⟨p1, p2, p3, p4, p5⟩ := hp
  rw [hU] at p5
  have hs1 : 1 ≤ secN b.length := by unfold secN; omega
  have hk : IntKind.i64.wrap (l.many - usedF 0 l.records) = l.many - (usedN l.records : Int) := by rw [hU, wrap_i64 (by omega) (by omega)]
  have hroom : roomJ l = 112 * (l.many - (usedN l.records : Int)) := by
    unfold roomJ
    rw [hbad, cond_false, hk, wrap_i64 (by omega) (by omega)]
  have hfit : secN b.length ≤ 1 + b.length := secN_le _
  rw [hroom]
  by_cases hc : (l.many - (usedN l.records : Int)) < (secN b.length : Int)
  · have ha : appJ l b = (⟨[], 0, 0⟩, 2) := by
      unfold appJ
      rw [hbad, cond_false, hk, secN_eq (by omega), decide_eq_true hc, cond_true]
    rw [ha]
    by_cases c0 : 0 < 112 * (l.many - (usedN l.records : Int))
    · have c2 : ¬ ((b.length : Int) ≤ 112 * (l.many - (usedN l.records : Int))) := by
        unfold secN at hc; omega
      rw [decide_eq_true c0, cond_true, decide_eq_false c2]; rfl
    · rw [decide_eq_false c0, cond_false]; rfl
  · have ha : appJ l b = (⟨l.records ++ [b], l.many, l.synced⟩, 0) := by
      unfold appJ
      rw [hbad, cond_false, hk, secN_eq (by omega), decide_eq_false hc, cond_false]
    have hbad' : badJ ⟨l.records ++ [b], l.many, l.synced⟩ = false := by
      unfold badJ
      simp only [hU', Bool.or_eq_false_iff, decide_eq_false_iff_not, List.length_append, List.length_cons, List.length_nil]
      omega
    have hroom' : roomJ ⟨l.records ++ [b], l.many, l.synced⟩ = 112 * (l.many - ((usedN l.records + secN b.length : Nat) : Int)) := by
      unfold roomJ
      rw [hbad', cond_false]
      simp only [hU']
      rw [wrap_i64 (m := l.many - _) (by omega) (by omega), wrap_i64 (by omega) (by omega)]
    have hL : (l.records ++ [b]).length = l.records.length + 1 := by simp
    have c0 : 0 < 112 * (l.many - (usedN l.records : Int)) := by omega
    have c2 : (b.length : Int) ≤ 112 * (l.many - (usedN l.records : Int)) := by unfold secN at hc; omega
    rw [ha, decide_eq_true c0, cond_true, decide_eq_true c2]
    simp only [hL]
    rw [m32_eq _ (by rw [hL]; omega), m34_eq _ (by rw [hL]; omega), hbad', hroom', ck_eq (by omega), ck_eq (by omega), m37_eq _ _ (by simp; omega)]
    have e1 : ((l.records ++ [b]).drop 0).take (l.records.length - 0) = l.records := by simp
    have e2 : (l.records ++ [b]).getD l.records.length default = b := by simp [List.getD]
    have e3 : IntKind.i64.wrap ((l.records.length : Int) + 1) = ((l.records.length + 1 : Nat) : Int) := by rw [wrap_i64 (by omega) (by omega)]; omega
    rw [e1, e2, e3]
    simp only [Option.bind_some, decide_true, cond_true, cond_false, ne_eq, not_true_eq_false, decide_false, Bool.not_true, beq_self_eq_true]
    rw [decide_eq_true (show 112 * (l.many - ((usedN l.records + secN b.length : Nat) : Int)) < 112 * (l.many - (usedN l.records : Int)) by omega)]
end Go.Fx



namespace Go.Proofs.Ytegomkljijgjjaa.lawJournalRoom
open Go Go.Proofs Go.ChangeShapes Go.WideShapes Go.ChangeAt Go.RowKit Go.Fx
open Go.ChangeMaps (open_string shut_string)
set_option linter.unusedVariables false
set_option maxRecDepth 100000
theorem one_le {H : Type} (d : DataW H) : 1 ≤ Rows.uptoBulk d := by
  cases d with
  | lit l => cases l <;> simp [Rows.uptoBulk]
  | nil => simp [Rows.uptoBulk]
  | ptr d => simp [Rows.uptoBulk]
  | slice elems spare => simp [Rows.uptoBulk]
  | agg parts => simp [Rows.uptoBulk]
  | iface t d => simp [Rows.uptoBulk]
  | map entries => simp [Rows.uptoBulk]
  | held h => simp [Rows.uptoBulk]
theorem all_sum {H : Type} (l : List (DataW H)) : Rows.uptoBulkAll l = (l.map Rows.uptoBulk).sum := by
  induction l with
  | nil => simp [Rows.uptoBulkAll]
  | cons x r ih => simp only [Rows.uptoBulkAll, List.map_cons, List.sum_cons, ih]
theorem slice_ge {H : Type} (e s : List (DataW H)) : 1 + (e.map Rows.uptoBulk).sum ≤ Rows.uptoBulk (.slice e s) := by
  rw [← all_sum]; simp only [Rows.uptoBulk]; omega
theorem agg_ge {H : Type} (l : List (DataW H)) (d : DataW H) (h : d ∈ l) : Rows.uptoBulk d ≤ Rows.uptoBulk (.agg l) := by
  have : Rows.uptoBulk d ≤ Rows.uptoBulkAll l := by
    induction l with
    | nil => cases h
    | cons x r ih =>
      simp only [Rows.uptoBulkAll]
      rcases List.mem_cons.1 h with rfl | h
      · omega
      · have := ih h; omega
  simp only [Rows.uptoBulk]; omega
theorem rb5 {H : Type} {enc : TypeId × Value → H} {w : World} {base : Nat} {spare : Nat → Bool} {held : Bool} : RdB Rows.uptoBulk enc Try.prog w base spare held 5 rU8 (fun _ => 1) := RdB.of one_le rd5
theorem rb41 {H : Type} {enc : TypeId × Value → H} {w : World} {base : Nat} {spare : Nat → Bool} {held : Bool} : RdB Rows.uptoBulk enc Try.prog w base spare held 41 (rSl rU8) (fun xs => 1 + (xs.map (fun _ => 1)).sum) := RdB_slice one_le slice_ge Try.underlying41 (by kernel_rfl) (by decide) rb5
theorem rb22 {H : Type} {enc : TypeId × Value → H} {w : World} {base : Nat} {spare : Nat → Bool} {held : Bool} : RdB Rows.uptoBulk enc Try.prog w base spare held 22 (rSl (rSl rU8)) (fun xs => 1 + (xs.map (fun xs => 1 + (xs.map (fun _ => 1)).sum)).sum) := RdB_slice one_le slice_ge Try.underlying22 (by kernel_rfl) (by decide) rb41
theorem rb3 {H : Type} {enc : TypeId × Value → H} {w : World} {base : Nat} {spare : Nat → Bool} {held : Bool} : RdB Rows.uptoBulk enc Try.prog w base spare held 3 (rInt .i64) (fun _ => 1) := RdB.of one_le rd3
theorem rb52 {H : Type} {enc : TypeId × Value → H} {w : World} {base : Nat} {spare : Nat → Bool} {held : Bool} : RdB Rows.uptoBulk enc Try.prog w base spare held 52 rXJournal (fun d => (fun xs => 1 + (xs.map (fun xs => 1 + (xs.map (fun _ => 1)).sum)).sum) d.records) := by
  refine ⟨by kernel_rfl, fun fuel cs y h => ?_⟩
  obtain ⟨xs, n, _, hy, hl, hlen, hf⟩ := DataW.trod_struct Try.underlying52 h
  obtain ⟨x0, h0, s0⟩ := fldB agg_ge Try.underlying52 hf hlen hy (i := 0) rfl rb22
  obtain ⟨x1, h1, s1⟩ := fldB agg_ge Try.underlying52 hf hlen hy (i := 1) rfl rb3
  obtain ⟨x2, h2, s2⟩ := fldB agg_ge Try.underlying52 hf hlen hy (i := 2) rfl rb3
  have hc : Try.prog.cellsOf 52 = 3 := by kernel_rfl
  refine ⟨⟨x0, x1, x2⟩, ?_, s0⟩
  exact rd_all (q := (rPair (rSl (rSl rU8)) (rPair (rInt .i64) (rInt .i64)))) (rd_pair h0 (rd_pair h1 h2)) (hl.trans hc)
theorem own : ownKnob Try.prog.godebug = none := by kernel_rfl
theorem laidOut : laidOutB Try.prog = true := by kernel_rfl
set_option maxRecDepth 100000 in
set_option maxHeartbeats 1000000 in
theorem lifted (os : Os) (started : os.Started) (H : Type) (enc : TypeId × Value → H) (F : Stop.Interp) :
    ReturnsInHanded {} Try.checked os 9 .any ((Rows.OpenSpec.upto Rows.journalRoomSpec).pre6 enc Try.prog Try.f9 Rows.journalRoomUptoRow.domain false) (((Rows.OpenSpec.upto Rows.journalRoomSpec).at F).post enc Try.prog Try.f9 false true false false) := by
  refine returnsInHanded_of_cond (C := Try.checked) (s := Rows.OpenSpec.upto Rows.journalRoomSpec) (k := Rows.uptoSmall) rfl own started (by kernel_rfl) Try.func9
    (OpenSpec.witness (enc := enc) (C := Try.checked) (s := Rows.OpenSpec.upto Rows.journalRoomSpec) (k := Rows.uptoSmall) rfl false ⟨#[], #[.agg #[(.slice none 0 0), (.int .i64 0), (.int .i64 0)], (.slice none 0 0)], []⟩ 8 (by kernel_rfl) (by kernel_rfl) (by kernel_rfl)
      (x := ([.agg [.nil, .lit (.int .i64 0), .lit (.int .i64 0)], .nil], [], [])) (by kernel_rfl) rfl (by kernel_rfl)) ?_
  intro W base args ds gs before hval0 hW hcnd hk _
  have hval : ∀ (j : Nat) t v, Try.f9.params[j]? = some t → args[j]? = some v → Value.okWide Try.prog W .any base t v := hval0
  have hW' := hW
  obtain ⟨p, q, hA0, hV, rfl, hfz, hnd⟩ := hW
  have hA : DataW.TrodAll enc Try.prog W 0 (fun _ => true) true Try.f9.params.toList args.toList ds p := hA0
  rw [Try.params9] at hA hval
  obtain ⟨v0, vs0, d0, ds0, p0, q0, hargs, rfl, rfl, h0, r0⟩ := trodAll_cons hA
  obtain ⟨v1, vs1, d1, ds1, p1, q1, rfl, rfl, rfl, h1, r1⟩ := trodAll_cons r0
  obtain ⟨rfl, rfl, rfl⟩ := trodAll_nil r1
  obtain rfl : args = #[v0, v1] := by cases args; simp_all
  obtain ⟨rfl, rfl⟩ := trodVars_none hV
  have k0 := h0
  have lt0 : ∀ x ∈ p0, x.block < W.heap.size := by obtain ⟨m, hm⟩ := k0; exact DataW.trod_lt m _ _ _ hm
  obtain ⟨fu0, hf0⟩ := h0
  obtain ⟨l, rr0, sm0⟩ := rb52.2 _ _ _ hf0
  obtain ⟨⟨cs0⟩, rfl, _⟩ := okWide_struct Try.underlying52 (hval 0 52 v0 rfl rfl)
  replace rr0 : rXJournal.rd W [] cs0 l := rr0
  obtain ⟨_, _, rfl, ⟨a_l_records, c_l_records, rfl, f_l_records⟩, ⟨_, _, rfl, ⟨rfl, r_l_many⟩, ⟨rfl, r_l_synced⟩⟩⟩ := rr0
  have k1 := h1
  have lt1 : ∀ x ∈ p1, x.block < W.heap.size := by obtain ⟨m, hm⟩ := k1; exact DataW.trod_lt m _ _ _ hm
  obtain ⟨fu1, hf1⟩ := h1
  obtain ⟨b, rr1, sm1⟩ := rb41.2 _ _ _ hf1
  obtain ⟨b1, l1, c1, rfl⟩ := okWide_slice Try.underlying41 (hval 1 41 v1 rfl rfl)
  replace rr1 : (rSl rU8).rd W [] [.slice b1 l1 c1] b := rr1
  obtain ⟨a_b, c_b, e1, f_b⟩ := un_sl rr1
  simp only [Value.slice.injEq] at e1
  obtain ⟨rfl, rfl, rfl⟩ := e1
  have hkb : Rows.uptoBulkAll ([d0, d1] ++ []) ≤ 1048576 := of_decide_eq_true hk
  simp only [List.append_nil, Rows.uptoBulkAll] at hkb
  replace sm0 := Nat.le_trans sm0 (show Rows.uptoBulk d0 ≤ 1048576 by omega)
  replace sm1 := Nat.le_trans sm1 (show Rows.uptoBulk d1 ≤ 1048576 by omega)
  have hm : m9_overflightlaw45_JournalRoom l b = some true := JournalRoom_law _ _ sm0 sm1
  have hc := Fn.calls (c9_overflightlaw45_JournalRoom (l := l) (b := b) (w := W) (O := []) (by simp) f_l_records r_l_many r_l_synced f_b hm)
  clear hA0 hval0
  refine Calls.mono hc ?_
  rintro e W' ⟨v, rfl, bel, hv⟩
  replace bel := bel.below; obtain rfl : v = .bool true := hv
  exact ⟨_, rfl, _, _, _, [], _, [], hW', trodAll_mk1 (shut_bool Try.underlying4 _), (trodAll_cons_mk (Below.trod laidOut (by kernel_rfl) (of_decide_eq_true (by kernel_rfl)) k0 bel lt0) (trodAll_cons_mk (Below.trod laidOut (by kernel_rfl) (of_decide_eq_true (by kernel_rfl)) k1 bel lt1) trodAll_mk0)), rfl, bel.frame _, fun h => by cases h⟩
theorem proved : Rows.JournalRoomUptoSaid :=
  OpenClaim.holds_of_cond 9 Try.f9 rfl rfl rfl rfl rfl rfl rfl ⟨rfl, rfl, rfl, rfl, rfl⟩ rfl rfl rfl rfl rfl (by kernel_rfl) Try.func9 (by kernel_rfl)
    (of_decide_eq_true (by kernel_rfl)) (by unfold Func.isWrapper; first | (rw [if_pos (by decide +kernel)]; kernel_rfl) | (rw [if_neg (by decide +kernel)]; exact ⟨rfl, rfl⟩))
    (fun os started H enc _ F => lifted os started H enc F)
end Go.Proofs.Ytegomkljijgjjaa.lawJournalRoom


