/- The law JournalSteps holds for every two lists of records whose bulk is small. -/
import Derived.Test.YtegomkljijgjjaaSteps5
import Derived.Laws.BitsAllLaws
import Derived.Test.YtegomkljijgjjaaRows
import Derived.WalkKit
import Derived.ShutString
import Derived.JoinedCond
set_option linter.unusedVariables false
set_option linter.unusedSimpArgs false
set_option maxRecDepth 100000
set_option maxHeartbeats 0
namespace Go.Fx
open Go Go.RowKit Go.Proofs
def m11_overflightlaw45_JournalSteps (a : List (List UInt8)) (b : List (List UInt8)) : Option Bool :=
 (m28_overflightlaw45_sane).bind fun sane_1 =>
 bif (!sane_1) then
  some false
 else
  (m15_disk_New 40).bind fun new_1 =>
  jn (fun (v_1 : Bool) =>
   bif v_1 then
    some (decide (new_1.2 = 0))
   else
    (m38_journal_Open new_1.1).bind fun open_1 =>
    bif (decide (open_1.2 ≠ 0)) then
     some false
    else
     ((fun x44 x45 => m40_overflightlaw45_JournalSteps_1 x44 x45) open_1.1 a).bind fun r_1 =>
     ((fun x44 x45 => m40_overflightlaw45_JournalSteps_1 x44 x45) r_1 b).bind fun r_2 =>
     (m39_journal_Sync r_2 new_1.1).bind fun sync_1 =>
     ((fun x44 x45 => m40_overflightlaw45_JournalSteps_1 x44 x45) open_1.1 a).bind fun r_3 =>
     (m39_journal_Sync r_3 new_1.1).bind fun sync_2 =>
     ((fun x44 x45 => m40_overflightlaw45_JournalSteps_1 x44 x45) sync_2.1 b).bind fun r_4 =>
     (m39_journal_Sync r_4 sync_2.2.1).bind fun sync_3 =>
     (m39_journal_Sync sync_3.1 sync_3.2.1).bind fun sync_4 =>
     (m38_journal_Open sync_1.2.1).bind fun open_2 =>
     (m38_journal_Open sync_4.2.1).bind fun open_3 =>
     jn (fun (v_2 : Bool) =>
      some v_2)
     (fun k677 =>
      bif (decide (sync_1.2.2 = 0)) then
       bif (decide (sync_2.2.2 = 0)) then
        bif (decide (sync_3.2.2 = 0)) then
         bif (decide (sync_4.2.2 = 0)) then
          bif (decide (open_2.2 = 0)) then
           bif (decide (open_3.2 = 0)) then
            (m36_overflightref45_Same sync_1.1 sync_3.1).bind fun same_1 =>
            bif same_1 then
             (m36_overflightref45_Same sync_4.1 sync_3.1).bind fun same_2 =>
             bif same_2 then
              (m37_overflightref45_SameRecords open_2.1.records open_3.1.records).bind fun samerecords_1 =>
              bif samerecords_1 then
               (m37_overflightref45_SameRecords open_2.1.records sync_1.1.records).bind fun samerecords_2 =>
               bif samerecords_2 then
                (m17_overflightref44_Same sync_3.2.1 sync_4.2.1).bind fun same_3 =>
                k677 same_3
               else
                k677 false
              else
               k677 false
             else
              k677 false
            else
             k677 false
           else
            k677 false
          else
           k677 false
         else
          k677 false
        else
         k677 false
       else
        k677 false
      else
       k677 false))
  (fun k33 =>
   bif (decide (new_1.2 ≠ 0)) then
    k33 true
   else
    ck ((([] : List (List UInt8)).length + a.length) * 24 ≤ 140737488355328) <|
    ck (((([] : List (List UInt8)) ++ a).length + b.length) * 24 ≤ 140737488355328) <|
    (m29_overflightlaw45_few new_1.1 ((([] : List (List UInt8)) ++ a) ++ b)).bind fun few_1 =>
    k33 (!few_1))

theorem c11_overflightlaw45_JournalSteps {w : World} {O : List Nat} {a : List (List UInt8)} {b : List (List UInt8)} {a_a : Option Addr} {c_a : Nat} {a_b : Option Addr} {c_b : Nat} (hO : ∀ k ∈ O, k < w.heap.size) (f_a : SlR (rSl rU8) w O a_a c_a a) (f_b : SlR (rSl rU8) w O a_b c_b b) {x : Bool} (hm : m11_overflightlaw45_JournalSteps a b = some x) :
  Ok Try.prog 11 [(Value.slice a_a a.length c_a), (Value.slice a_b b.length c_b)] w O vB x := by
 unfold m11_overflightlaw45_JournalSteps at hm
 refine Fn_of_Wp (n := 154) (xs := [.tmp 4]) Try.func11 rfl Try.ntmps11 Try.results11 rfl ?_
 have hs := St.start hO
 refine Wp_seq ?_
 refine Wp_region ?_
 refine Rg_op rfl (op_assign (v := (Value.bool false)) rfl ?_)
 refine Rg_nil ?_
 refine Wp_seq ?_
 refine Wp_seq ?_
 refine Wp_region ?_
 replace hm := bd hm; obtain ⟨sane_1, hv1, hm⟩ := hm
 refine Rg_op rfl (op_call Try.call28 (c28_overflightlaw45_sane  hs.ltw  hv1) rfl ?_)
 rintro v2 w3 ⟨hx4, h5⟩
 have hs6 := hs.call hx4
 have p7 := Step.ext (O := ks [] O) hx4
 clear hx4
 replace f_a := f_a.step p7; replace f_b := f_b.step p7; clear p7
 obtain rfl := h5
 refine Rg_op rfl (op_not rfl ?_)
 refine Rg_nil ?_
 refine Wp_cond rfl (fun hc9 => ?_) (fun hc9 => ?_)
 ·
  replace hm := bif_t hm hc9
  refine Wp_seq ?_
  clear f_a f_b
  refine Wp_region ?_
  refine Rg_op rfl (op_assign (v := (Value.bool false)) rfl ?_)
  refine Rg_nil ?_
  refine Wp_ret ?_
  have hz := step_all hs6
  refine ⟨_, (show Closes [] _ _ from rfl), [(Value.bool false)], ⟨rfl, trivial⟩, hs6.ext, ?_⟩
  exact Vr.eq (a := vB) (x := false) rfl (Option.some.inj hm)
 ·
  replace hm := bif_f hm hc9
  refine Wp_skip ?_
  refine Wp_seq ?_
  refine Wp_region ?_
  replace hm := bd hm; obtain ⟨new_1, hv10, hm⟩ := hm
  refine Rg_op rfl (op_call Try.call15 (c15_disk_New (sectors := 40) hs6.ltw (show InK .i64 40 from by decide) hv10) rfl ?_)
  rintro v11 w12 ⟨hx13, h14⟩
  have hs15 := hs6.call hx13
  have p16 := Step.ext (O := ks [] O) hx13
  clear hx13
  replace f_a := f_a.step p16; replace f_b := f_b.step p16; clear p16 hs6
  obtain ⟨v17, v18, rfl, h19, h20⟩ := h14
  obtain ⟨_, rfl, ⟨_, _, rfl, ⟨a_y21_sectors, c_y21_sectors, rfl, f_y21_sectors⟩, ⟨_, _, rfl, ⟨a_y21_pending, c_y21_pending, rfl, f_y21_pending⟩, ⟨_, _, rfl, ⟨rfl, r_y21_left⟩, rfl⟩⟩⟩⟩ := h19
  obtain ⟨rfl, r_y22⟩ := h20
  refine Rg_op rfl (op_move (v := (Value.tuple [(Value.agg [(Value.slice a_y21_sectors new_1.1.sectors.length c_y21_sectors), (Value.slice a_y21_pending new_1.1.pending.length c_y21_pending), (Value.int .i64 new_1.1.left), (Value.bool new_1.1.stopped)].toArray), (Value.int .i64 new_1.2)].toArray)) rfl ?_)
  refine Rg_op rfl (op_extract (v := (Value.agg [(Value.slice a_y21_sectors new_1.1.sectors.length c_y21_sectors), (Value.slice a_y21_pending new_1.1.pending.length c_y21_pending), (Value.int .i64 new_1.1.left), (Value.bool new_1.1.stopped)].toArray)) rfl rfl ?_)
  refine Rg_op rfl (op_extract (v := (Value.int .i64 new_1.2)) rfl rfl ?_)
  refine Rg_op rfl (op_alloc ty25 hs15 ?_)
  intro b23 w24 _ p25 hs26
  replace f_a := f_a.step p25; replace f_b := f_b.step p25; replace f_y21_sectors := f_y21_sectors.step p25; replace f_y21_pending := f_y21_pending.step p25; clear p25 hs15
  refine Rg_op_ (op_store (cs := [(Value.slice none 0 0), (Value.slice none 0 0), (Value.int .i64 0), (Value.bool false)]) (vs := [(Value.slice a_y21_sectors new_1.1.sectors.length c_y21_sectors), (Value.slice a_y21_pending new_1.1.pending.length c_y21_pending), (Value.int .i64 new_1.1.left), (Value.bool new_1.1.stopped)]) (cs' := [(Value.slice a_y21_sectors new_1.1.sectors.length c_y21_sectors), (Value.slice a_y21_pending new_1.1.pending.length c_y21_pending), (Value.int .i64 new_1.1.left), (Value.bool new_1.1.stopped)]) (bs' := [(some b23, Obj.cells [(Value.slice a_y21_sectors new_1.1.sectors.length c_y21_sectors), (Value.slice a_y21_pending new_1.1.pending.length c_y21_pending), (Value.int .i64 new_1.1.left), (Value.bool new_1.1.stopped)].toArray 25)]) (i := 0) ty25 hs26 rfl rfl rfl rfl rfl (le_lit rfl) rfl rfl rfl ?_)
  intro w28 p29 hs30
  replace f_a := f_a.step p29; replace f_b := f_b.step p29; replace f_y21_sectors := f_y21_sectors.step p29; replace f_y21_pending := f_y21_pending.step p29; clear p29 hs26
  refine Rg_op rfl (op_assign (v := (Value.int .i64 new_1.2)) rfl ?_)
  refine Rg_nil ?_
  refine Wp_seq ?_
  refine Wp_reset [] [(0, (Value.slice a_a a.length c_a)), (1, (Value.slice a_b b.length c_b)), (5, (Value.pointer (some ⟨b23, 0, none⟩))), (6, (Value.int .i64 new_1.2))] rfl ⟨rfl, rfl, rfl, rfl, trivial⟩ fun ξ31 => ?_
  replace hm := jn_elim hm; obtain ⟨k33, hk34, hm⟩ := hm
  refine Wp_seqJ [32, 33, 34, 35, 36, 37, 38, 39, 40, 41, 42, 43] (fun fr w' => ∃ (v_1 : Bool) (Ebs : Ents), Ebs = [(some b23, Obj.cells [(Value.slice a_y21_sectors new_1.1.sectors.length c_y21_sectors), (Value.slice a_y21_pending new_1.1.pending.length c_y21_pending), (Value.int .i64 new_1.1.left), (Value.bool new_1.1.stopped)].toArray 25)] ∧ fr [] [(43, (Value.bool v_1))] ∧ Step (ks [(some b23, Obj.cells [(Value.slice a_y21_sectors new_1.1.sectors.length c_y21_sectors), (Value.slice a_y21_pending new_1.1.pending.length c_y21_pending), (Value.int .i64 new_1.1.left), (Value.bool new_1.1.stopped)].toArray 25)] O) w28 (ks Ebs O) w' ∧ St ⟨w, [], []⟩ O w' Ebs ∧ k33 v_1 = some x) ?_ ?_
  ·
   rintro ρ40 w36 ⟨v_1, Ebs, hEbs, hfr39, hst38, hs37, hm⟩
   replace hm := jnE1 hk34 hm
   subst hEbs; rw [hfr39.eq]; clear hfr39
   replace f_a := f_a.step hst38; replace f_b := f_b.step hst38; replace f_y21_sectors := f_y21_sectors.step hst38; replace f_y21_pending := f_y21_pending.step hst38; clear hst38 hs30
   refine Wp_cond rfl (fun hc41 => ?_) (fun hc41 => ?_)
   ·
    replace hm := bif_t hm hc41
    refine Wp_seq ?_
    obtain ⟨hs42, p43⟩ := hs37.sub (bs' := []) (.cons _ List.Sublist.slnil)
    clear f_a f_b f_y21_sectors f_y21_pending
    clear p43 hs37
    refine Wp_region ?_
    refine Rg_op rfl (op_move (v := (Value.int .i64 new_1.2)) rfl ?_)
    refine Rg_op rfl (op_eql rfl rfl ?_)
    refine Rg_op rfl (op_assign (v := (Value.bool (decide (new_1.2 = 0)))) rfl ?_)
    refine Rg_nil ?_
    refine Wp_ret ?_
    have hz := step_all hs42
    refine ⟨_, (show Closes [] _ _ from rfl), [(Value.bool (decide (new_1.2 = 0)))], ⟨rfl, trivial⟩, hs42.ext, ?_⟩
    exact Vr.eq (a := vB) (x := (decide (new_1.2 = 0))) rfl (Option.some.inj hm)
   ·
    replace hm := bif_f hm hc41
    refine Wp_skip ?_
    refine Wp_seq ?_
    refine Wp_region ?_
    have F46 : CallsTo2 Try.prog w36 (ks [(some b23, Obj.cells [(Value.slice a_y21_sectors new_1.1.sectors.length c_y21_sectors), (Value.slice a_y21_pending new_1.1.pending.length c_y21_pending), (Value.int .i64 new_1.1.left), (Value.bool new_1.1.stopped)].toArray 25)] O) (Value.func (.func 40) #[] #[]) (vA rXJournal) (vC (rSl (rSl rU8))) (vA rXJournal) (fun x44 x45 => m40_overflightlaw45_JournalSteps_1 x44 x45) := by
     intro w47 O48 st49 hO50 v53 v54 x44 x45 y51 h55 h56 hy52
     obtain ⟨_, rfl, ⟨_, _, rfl, ⟨a_y57_records, c_y57_records, rfl, f_y57_records⟩, ⟨_, _, rfl, ⟨rfl, r_y57_many⟩, ⟨rfl, r_y57_synced⟩⟩⟩⟩ := h55
     obtain ⟨a_y58, c_y58, rfl, f_y58⟩ := un_sl h56
     exact ⟨40, #[], #[], rfl, Try.call40, c40_overflightlaw45_JournalSteps_1 (l := x44) (records := x45) hO50 f_y57_records r_y57_many r_y57_synced f_y58 hy52⟩
    refine Rg_op rfl (op_assign (v := (Value.func (.func 40) #[] #[])) rfl ?_)
    refine Rg_nil ?_
    refine Wp_seq ?_
    refine Wp_region ?_
    refine Rg_op rfl (op_loadA (cs := [(Value.slice a_y21_sectors new_1.1.sectors.length c_y21_sectors), (Value.slice a_y21_pending new_1.1.pending.length c_y21_pending), (Value.int .i64 new_1.1.left), (Value.bool new_1.1.stopped)]) (vs := [(Value.slice a_y21_sectors new_1.1.sectors.length c_y21_sectors), (Value.slice a_y21_pending new_1.1.pending.length c_y21_pending), (Value.int .i64 new_1.1.left), (Value.bool new_1.1.stopped)]) (i := 0) ty25 hs37 rfl rfl rfl rfl ?_)
    replace hm := bd hm; obtain ⟨open_1, hv59, hm⟩ := hm
    refine Rg_op rfl (op_call Try.call38 (c38_journal_Open (d := new_1.1) hs37.ltw f_y21_sectors f_y21_pending r_y21_left hv59) rfl ?_)
    rintro v60 w61 ⟨hx62, h63⟩
    have hs64 := hs37.call hx62
    have p65 := Step.ext (O := ks [(some b23, Obj.cells [(Value.slice a_y21_sectors new_1.1.sectors.length c_y21_sectors), (Value.slice a_y21_pending new_1.1.pending.length c_y21_pending), (Value.int .i64 new_1.1.left), (Value.bool new_1.1.stopped)].toArray 25)] O) hx62
    clear hx62
    replace f_a := f_a.step p65; replace f_b := f_b.step p65; replace f_y21_sectors := f_y21_sectors.step p65; replace f_y21_pending := f_y21_pending.step p65; replace F46 := F46.step p65; clear p65 hs37
    obtain ⟨v66, v67, rfl, h68, h69⟩ := h63
    obtain ⟨_, rfl, ⟨_, _, rfl, ⟨a_y70_records, c_y70_records, rfl, f_y70_records⟩, ⟨_, _, rfl, ⟨rfl, r_y70_many⟩, ⟨rfl, r_y70_synced⟩⟩⟩⟩ := h68
    obtain ⟨rfl, r_y71⟩ := h69
    refine Rg_op rfl (op_move (v := (Value.tuple [(Value.agg [(Value.slice a_y70_records open_1.1.records.length c_y70_records), (Value.int .i64 open_1.1.many), (Value.int .i64 open_1.1.synced)].toArray), (Value.int .i64 open_1.2)].toArray)) rfl ?_)
    refine Rg_op rfl (op_extract (v := (Value.agg [(Value.slice a_y70_records open_1.1.records.length c_y70_records), (Value.int .i64 open_1.1.many), (Value.int .i64 open_1.1.synced)].toArray)) rfl rfl ?_)
    refine Rg_op rfl (op_extract (v := (Value.int .i64 open_1.2)) rfl rfl ?_)
    refine Rg_op rfl (op_alloc ty52 hs64 ?_)
    intro b72 w73 _ p74 hs75
    replace f_a := f_a.step p74; replace f_b := f_b.step p74; replace f_y21_sectors := f_y21_sectors.step p74; replace f_y21_pending := f_y21_pending.step p74; replace F46 := F46.step p74; replace f_y70_records := f_y70_records.step p74; clear p74 hs64
    refine Rg_op_ (op_store (cs := [(Value.slice none 0 0), (Value.int .i64 0), (Value.int .i64 0)]) (vs := [(Value.slice a_y70_records open_1.1.records.length c_y70_records), (Value.int .i64 open_1.1.many), (Value.int .i64 open_1.1.synced)]) (cs' := [(Value.slice a_y70_records open_1.1.records.length c_y70_records), (Value.int .i64 open_1.1.many), (Value.int .i64 open_1.1.synced)]) (bs' := [(some b72, Obj.cells [(Value.slice a_y70_records open_1.1.records.length c_y70_records), (Value.int .i64 open_1.1.many), (Value.int .i64 open_1.1.synced)].toArray 52), (some b23, Obj.cells [(Value.slice a_y21_sectors new_1.1.sectors.length c_y21_sectors), (Value.slice a_y21_pending new_1.1.pending.length c_y21_pending), (Value.int .i64 new_1.1.left), (Value.bool new_1.1.stopped)].toArray 25)]) (i := 0) ty52 hs75 rfl rfl rfl rfl rfl (le_lit rfl) rfl rfl rfl ?_)
    intro w77 p78 hs79
    replace f_a := f_a.step p78; replace f_b := f_b.step p78; replace f_y21_sectors := f_y21_sectors.step p78; replace f_y21_pending := f_y21_pending.step p78; replace F46 := F46.step p78; replace f_y70_records := f_y70_records.step p78; clear p78 hs75
    refine Rg_op rfl (op_assign (v := (Value.int .i64 open_1.2)) rfl ?_)
    refine Rg_nil ?_
    refine Wp_seq ?_
    refine Wp_seq ?_
    refine Wp_region ?_
    refine Rg_op rfl (op_move (v := (Value.int .i64 open_1.2)) rfl ?_)
    refine Rg_op rfl (op_neq rfl rfl ?_)
    refine Rg_nil ?_
    refine Wp_cond rfl (fun hc80 => ?_) (fun hc80 => ?_)
    ·
     replace hm := bif_t hm hc80
     refine Wp_seq ?_
     obtain ⟨hs81, p82⟩ := hs79.sub (bs' := []) (.cons _ (.cons _ List.Sublist.slnil))
     clear f_a f_b f_y21_sectors f_y21_pending F46 f_y70_records
     clear p82 hs79
     refine Wp_region ?_
     refine Rg_op rfl (op_assign (v := (Value.bool false)) rfl ?_)
     refine Rg_nil ?_
     refine Wp_ret ?_
     have hz := step_all hs81
     refine ⟨_, (show Closes [] _ _ from rfl), [(Value.bool false)], ⟨rfl, trivial⟩, hs81.ext, ?_⟩
     exact Vr.eq (a := vB) (x := false) rfl (Option.some.inj hm)
    ·
     replace hm := bif_f hm hc80
     refine Wp_skip ?_
     refine Wp_seq ?_
     refine Wp_drawR (g0 := []) (m := 15) (fl := [11, 12]) (TS_inv hs79) rfl (.inl rfl) rfl (by decide +kernel) ?_  -- 10
     refine Dw_eq (Value.func (.func 40) #[] #[]) (fun ρ83 w84 g hle hi ht => ?_) ?_
     ·
      obtain ⟨-, hst, -⟩ := hle
      refine StepOp_plain (op_move (v := (Value.func (.func 40) #[] #[])) (ht 7 rfl) ?_)
      exact Goes.same hi rfl
     refine Dw_eq (Value.func (.func 40) #[] #[]) (fun ρ86 w87 g hle hi ht => ?_) ?_
     ·
      obtain ⟨-, hst, -⟩ := hle
      refine StepOp_plain (op_move (v := (Value.func (.func 40) #[] #[])) (ht 7 rfl) ?_)
      exact Goes.same hi rfl
     refine Dw_eq (Value.agg [(Value.slice a_y70_records open_1.1.records.length c_y70_records), (Value.int .i64 open_1.1.many), (Value.int .i64 open_1.1.synced)].toArray) (fun ρ89 w90 g hle hi ht => ?_) ?_
     ·
      obtain ⟨-, hst, -⟩ := hle
      have hsn := (Step.nx hi).1
      refine StepOp_plain (op_loadA (cs := [(Value.slice a_y70_records open_1.1.records.length c_y70_records), (Value.int .i64 open_1.1.many), (Value.int .i64 open_1.1.synced)]) (vs := [(Value.slice a_y70_records open_1.1.records.length c_y70_records), (Value.int .i64 open_1.1.many), (Value.int .i64 open_1.1.synced)]) (i := 0) ty52 hsn (ht 8 rfl) rfl rfl rfl ?_)
      exact Goes.same hi rfl
     refine Dw_eq (Value.slice a_a a.length c_a) (fun ρ92 w93 g hle hi ht => ?_) ?_
     ·
      obtain ⟨-, hst, -⟩ := hle
      refine StepOp_plain (op_move (v := (Value.slice a_a a.length c_a)) (ht 0 rfl) ?_)
      exact Goes.same hi rfl
     replace hm := bd hm; obtain ⟨r_1, hv98, hm⟩ := hm
     refine Dw_op (VD O [(some b72, Obj.cells [(Value.slice a_y70_records open_1.1.records.length c_y70_records), (Value.int .i64 open_1.1.many), (Value.int .i64 open_1.1.synced)].toArray 52), (some b23, Obj.cells [(Value.slice a_y21_sectors new_1.1.sectors.length c_y21_sectors), (Value.slice a_y21_pending new_1.1.pending.length c_y21_pending), (Value.int .i64 new_1.1.left), (Value.bool new_1.1.stopped)].toArray 25)] (vA rXJournal) r_1) (VD.stab _ _) (fun ρ95 w96 g hle hi ht => ?_) ?_
     ·
      obtain ⟨-, hst, -⟩ := hle
      replace f_a := f_a.step hst; replace F46 := F46.step hst; replace f_y70_records := f_y70_records.step hst
      refine StepOp_plain (op_callF (ht 55 rfl) (F46.call hi.ltw (mkA (mkVia (mk_pair (mk_sl f_y70_records) (mk_pair (mk_int r_y70_many) (mk_int r_y70_synced))))) (mkC (mk_sl f_a)) hv98) (by simp only [List.map, Array.toList, (show ev _ (.tmp 56) = _ from (ht 56 rfl)), (show ev _ (.tmp 57) = _ from (ht 57 rfl))] <;> rfl) ?_)
      rintro v99 w100 ⟨hx101, h102⟩
      exact Goes.call hi hx101 h102
     refine Dw_eq (Value.slice a_b b.length c_b) (fun ρ104 w105 g hle hi ht => ?_) ?_
     ·
      obtain ⟨-, hst, -⟩ := hle
      refine StepOp_plain (op_move (v := (Value.slice a_b b.length c_b)) (ht 1 rfl) ?_)
      exact Goes.same hi rfl
     replace hm := bd hm; obtain ⟨r_2, hv113, hm⟩ := hm
     refine Dw_op (VD O [(some b72, Obj.cells [(Value.slice a_y70_records open_1.1.records.length c_y70_records), (Value.int .i64 open_1.1.many), (Value.int .i64 open_1.1.synced)].toArray 52), (some b23, Obj.cells [(Value.slice a_y21_sectors new_1.1.sectors.length c_y21_sectors), (Value.slice a_y21_pending new_1.1.pending.length c_y21_pending), (Value.int .i64 new_1.1.left), (Value.bool new_1.1.stopped)].toArray 25)] (vA rXJournal) r_2) (VD.stab _ _) (fun ρ107 w108 g hle hi ht => ?_) ?_
     ·
      obtain ⟨-, hst, -⟩ := hle
      replace f_b := f_b.step hst; replace F46 := F46.step hst
      have h110 : Vr.vd (vA rXJournal) _ _ _ _ := ht 58 rfl
      obtain ⟨_, q111, ⟨_, _, rfl, ⟨a_y112_records, c_y112_records, rfl, f_y112_records⟩, ⟨_, _, rfl, ⟨rfl, r_y112_many⟩, ⟨rfl, r_y112_synced⟩⟩⟩⟩ := h110
      refine StepOp_plain (op_callF (ht 54 rfl) (F46.call hi.ltw (mkA (mkVia (mk_pair (mk_sl f_y112_records) (mk_pair (mk_int r_y112_many) (mk_int r_y112_synced))))) (mkC (mk_sl f_b)) hv113) (by simp only [List.map, Array.toList, (show ev _ (.tmp 58) = _ from q111), (show ev _ (.tmp 59) = _ from (ht 59 rfl))] <;> rfl) ?_)
      rintro v114 w115 ⟨hx116, h117⟩
      exact Goes.call hi hx116 h117
     refine Dw_eq (Value.agg [(Value.slice a_y21_sectors new_1.1.sectors.length c_y21_sectors), (Value.slice a_y21_pending new_1.1.pending.length c_y21_pending), (Value.int .i64 new_1.1.left), (Value.bool new_1.1.stopped)].toArray) (fun ρ119 w120 g hle hi ht => ?_) ?_
     ·
      obtain ⟨-, hst, -⟩ := hle
      have hsn := (Step.nx hi).1
      refine StepOp_plain (op_loadA (cs := [(Value.slice a_y21_sectors new_1.1.sectors.length c_y21_sectors), (Value.slice a_y21_pending new_1.1.pending.length c_y21_pending), (Value.int .i64 new_1.1.left), (Value.bool new_1.1.stopped)]) (vs := [(Value.slice a_y21_sectors new_1.1.sectors.length c_y21_sectors), (Value.slice a_y21_pending new_1.1.pending.length c_y21_pending), (Value.int .i64 new_1.1.left), (Value.bool new_1.1.stopped)]) (i := 1) ty25 hsn (ht 5 rfl) rfl rfl rfl ?_)
      exact Goes.same hi rfl
     replace hm := bd hm; obtain ⟨sync_1, hv128, hm⟩ := hm
     refine Dw_op (VD O [(some b72, Obj.cells [(Value.slice a_y70_records open_1.1.records.length c_y70_records), (Value.int .i64 open_1.1.many), (Value.int .i64 open_1.1.synced)].toArray 52), (some b23, Obj.cells [(Value.slice a_y21_sectors new_1.1.sectors.length c_y21_sectors), (Value.slice a_y21_pending new_1.1.pending.length c_y21_pending), (Value.int .i64 new_1.1.left), (Value.bool new_1.1.stopped)].toArray 25)] (vT3 (vA rXJournal) (vA rXDisk) (vI .i64)) sync_1) (VD.stab _ _) (fun ρ122 w123 g hle hi ht => ?_) ?_
     ·
      obtain ⟨-, hst, -⟩ := hle
      replace f_y21_sectors := f_y21_sectors.step hst; replace f_y21_pending := f_y21_pending.step hst
      have h125 : Vr.vd (vA rXJournal) _ _ _ _ := ht 60 rfl
      obtain ⟨_, q126, ⟨_, _, rfl, ⟨a_y127_records, c_y127_records, rfl, f_y127_records⟩, ⟨_, _, rfl, ⟨rfl, r_y127_many⟩, ⟨rfl, r_y127_synced⟩⟩⟩⟩ := h125
      refine StepOp_plain (op_call Try.call39 (c39_journal_Sync (O := ks (ents g ++ [(some b72, Obj.cells [(Value.slice a_y70_records open_1.1.records.length c_y70_records), (Value.int .i64 open_1.1.many), (Value.int .i64 open_1.1.synced)].toArray 52), (some b23, Obj.cells [(Value.slice a_y21_sectors new_1.1.sectors.length c_y21_sectors), (Value.slice a_y21_pending new_1.1.pending.length c_y21_pending), (Value.int .i64 new_1.1.left), (Value.bool new_1.1.stopped)].toArray 25)]) O) (l := r_2) (d := new_1.1) hi.ltw f_y127_records r_y127_many r_y127_synced f_y21_sectors f_y21_pending r_y21_left hv128) (by simp only [List.map, Array.toList, (show ev _ (.tmp 60) = _ from q126), (show ev _ (.tmp 61) = _ from (ht 61 rfl))] <;> rfl) ?_)
      rintro v129 w130 ⟨hx131, h132⟩
      exact Goes.call hi hx131 h132
     refine Dw_op (VD O [(some b72, Obj.cells [(Value.slice a_y70_records open_1.1.records.length c_y70_records), (Value.int .i64 open_1.1.many), (Value.int .i64 open_1.1.synced)].toArray 52), (some b23, Obj.cells [(Value.slice a_y21_sectors new_1.1.sectors.length c_y21_sectors), (Value.slice a_y21_pending new_1.1.pending.length c_y21_pending), (Value.int .i64 new_1.1.left), (Value.bool new_1.1.stopped)].toArray 25)] (vT3 (vA rXJournal) (vA rXDisk) (vI .i64)) sync_1) (VD.stab _ _) (fun ρ134 w135 g hle hi ht => ?_) ?_
     ·
      obtain ⟨-, hst, -⟩ := hle
      have h : Vr.vd (vT3 (vA rXJournal) (vA rXDisk) (vI .i64)) _ _ _ _ := ht 62 rfl
      refine StepOp_plain (op_move rfl (Goes.same hi h))
     refine Dw_op (VD O [(some b72, Obj.cells [(Value.slice a_y70_records open_1.1.records.length c_y70_records), (Value.int .i64 open_1.1.many), (Value.int .i64 open_1.1.synced)].toArray 52), (some b23, Obj.cells [(Value.slice a_y21_sectors new_1.1.sectors.length c_y21_sectors), (Value.slice a_y21_pending new_1.1.pending.length c_y21_pending), (Value.int .i64 new_1.1.left), (Value.bool new_1.1.stopped)].toArray 25)] (vA rXJournal) sync_1.1) (VD.stab _ _) (fun ρ148 w149 g hle hi ht => ?_) ?_
     ·
      obtain ⟨-, hst, -⟩ := hle
      have h151 : Vr.vd (vT3 (vA rXJournal) (vA rXDisk) (vI .i64)) _ _ _ _ := ht 53 rfl
      obtain ⟨v153, v154, v155, q152, h156, h157, h158⟩ := h151
      obtain ⟨_, rfl, ⟨_, _, rfl, ⟨a_y159_records, c_y159_records, rfl, f_y159_records⟩, ⟨_, _, rfl, ⟨rfl, r_y159_many⟩, ⟨rfl, r_y159_synced⟩⟩⟩⟩ := h156
      obtain ⟨_, rfl, ⟨_, _, rfl, ⟨a_y160_sectors, c_y160_sectors, rfl, f_y160_sectors⟩, ⟨_, _, rfl, ⟨a_y160_pending, c_y160_pending, rfl, f_y160_pending⟩, ⟨_, _, rfl, ⟨rfl, r_y160_left⟩, rfl⟩⟩⟩⟩ := h157
      obtain ⟨rfl, r_y161⟩ := h158
      refine StepOp_plain (op_extract (v := (Value.agg [(Value.slice a_y159_records sync_1.1.records.length c_y159_records), (Value.int .i64 sync_1.1.many), (Value.int .i64 sync_1.1.synced)].toArray)) q152 rfl ?_)
      exact Goes.same hi (show Vr.vd (vA rXJournal) _ _ _ _ from (mkA (mkVia (mk_pair (mk_sl f_y159_records) (mk_pair (mk_int r_y159_many) (mk_int r_y159_synced))))))
     refine Dw_op (VD O [(some b72, Obj.cells [(Value.slice a_y70_records open_1.1.records.length c_y70_records), (Value.int .i64 open_1.1.many), (Value.int .i64 open_1.1.synced)].toArray 52), (some b23, Obj.cells [(Value.slice a_y21_sectors new_1.1.sectors.length c_y21_sectors), (Value.slice a_y21_pending new_1.1.pending.length c_y21_pending), (Value.int .i64 new_1.1.left), (Value.bool new_1.1.stopped)].toArray 25)] (vA rXDisk) sync_1.2.1) (VD.stab _ _) (fun ρ162 w163 g hle hi ht => ?_) ?_
     ·
      obtain ⟨-, hst, -⟩ := hle
      have h165 : Vr.vd (vT3 (vA rXJournal) (vA rXDisk) (vI .i64)) _ _ _ _ := ht 53 rfl
      obtain ⟨v167, v168, v169, q166, h170, h171, h172⟩ := h165
      obtain ⟨_, rfl, ⟨_, _, rfl, ⟨a_y173_records, c_y173_records, rfl, f_y173_records⟩, ⟨_, _, rfl, ⟨rfl, r_y173_many⟩, ⟨rfl, r_y173_synced⟩⟩⟩⟩ := h170
      obtain ⟨_, rfl, ⟨_, _, rfl, ⟨a_y174_sectors, c_y174_sectors, rfl, f_y174_sectors⟩, ⟨_, _, rfl, ⟨a_y174_pending, c_y174_pending, rfl, f_y174_pending⟩, ⟨_, _, rfl, ⟨rfl, r_y174_left⟩, rfl⟩⟩⟩⟩ := h171
      obtain ⟨rfl, r_y175⟩ := h172
      refine StepOp_plain (op_extract (v := (Value.agg [(Value.slice a_y174_sectors sync_1.2.1.sectors.length c_y174_sectors), (Value.slice a_y174_pending sync_1.2.1.pending.length c_y174_pending), (Value.int .i64 sync_1.2.1.left), (Value.bool sync_1.2.1.stopped)].toArray)) q166 rfl ?_)
      exact Goes.same hi (show Vr.vd (vA rXDisk) _ _ _ _ from (mkA (mkVia (mk_pair (mk_sl f_y174_sectors) (mk_pair (mk_sl f_y174_pending) (mk_pair (mk_int r_y174_left) mkBool))))))
     refine Dw_op (VD O [(some b72, Obj.cells [(Value.slice a_y70_records open_1.1.records.length c_y70_records), (Value.int .i64 open_1.1.many), (Value.int .i64 open_1.1.synced)].toArray 52), (some b23, Obj.cells [(Value.slice a_y21_sectors new_1.1.sectors.length c_y21_sectors), (Value.slice a_y21_pending new_1.1.pending.length c_y21_pending), (Value.int .i64 new_1.1.left), (Value.bool new_1.1.stopped)].toArray 25)] (vI .i64) sync_1.2.2) (VD.stab _ _) (fun ρ176 w177 g hle hi ht => ?_) ?_
     ·
      obtain ⟨-, hst, -⟩ := hle
      have h179 : Vr.vd (vT3 (vA rXJournal) (vA rXDisk) (vI .i64)) _ _ _ _ := ht 53 rfl
      obtain ⟨v181, v182, v183, q180, h184, h185, h186⟩ := h179
      obtain ⟨_, rfl, ⟨_, _, rfl, ⟨a_y187_records, c_y187_records, rfl, f_y187_records⟩, ⟨_, _, rfl, ⟨rfl, r_y187_many⟩, ⟨rfl, r_y187_synced⟩⟩⟩⟩ := h184
      obtain ⟨_, rfl, ⟨_, _, rfl, ⟨a_y188_sectors, c_y188_sectors, rfl, f_y188_sectors⟩, ⟨_, _, rfl, ⟨a_y188_pending, c_y188_pending, rfl, f_y188_pending⟩, ⟨_, _, rfl, ⟨rfl, r_y188_left⟩, rfl⟩⟩⟩⟩ := h185
      obtain ⟨rfl, r_y189⟩ := h186
      refine StepOp_plain (op_extract (v := (Value.int .i64 sync_1.2.2)) q180 rfl ?_)
      exact Goes.same hi (show Vr.vd (vI .i64) _ _ _ _ from ⟨rfl, r_y189⟩)
     refine Dw_op (VN 10 (Obj.cells [(Value.slice none 0 0), (Value.int .i64 0), (Value.int .i64 0)].toArray 52)) (VN.stab _ _) (fun ρ190 w191 g hle hi ht => ?_) ?_
     ·
      obtain ⟨-, hst, -⟩ := hle
      refine StepOp_plain (op_alloc ty52 hi ?_)
      intro b193 w194 hx197 p195 hs196; exact Goes.new hi p195 hs196 hx197
     refine Dw_op (VN 11 (Obj.cells [(Value.slice none 0 0), (Value.slice none 0 0), (Value.int .i64 0), (Value.bool false)].toArray 25)) (VN.stab _ _) (fun ρ198 w199 g hle hi ht => ?_) ?_
     ·
      obtain ⟨-, hst, -⟩ := hle
      refine StepOp_plain (op_alloc ty25 hi ?_)
      intro b201 w202 hx205 p203 hs204; exact Goes.new hi p203 hs204 hx205
     refine Dw_nil fun w210 g211 hl212 hi213 => ?_
     obtain ⟨-, hst214, -⟩ := hl212
     rintro _ ⟨b217, rfl, h218⟩
     rintro _ ⟨b220, rfl, h221⟩
     rintro v223 h224
     replace h224 : Vr.vd (vI .i64) _ _ _ _ := h224
     obtain ⟨rfl, r_y225⟩ := h224
     rintro v226 h227
     replace h227 : Vr.vd (vA rXDisk) _ _ _ _ := h227
     obtain ⟨_, rfl, ⟨_, _, rfl, ⟨a_y228_sectors, c_y228_sectors, rfl, f_y228_sectors⟩, ⟨_, _, rfl, ⟨a_y228_pending, c_y228_pending, rfl, f_y228_pending⟩, ⟨_, _, rfl, ⟨rfl, r_y228_left⟩, rfl⟩⟩⟩⟩ := h227
     rintro v229 h230
     replace h230 : Vr.vd (vA rXJournal) _ _ _ _ := h230
     obtain ⟨_, rfl, ⟨_, _, rfl, ⟨a_y231_records, c_y231_records, rfl, f_y231_records⟩, ⟨_, _, rfl, ⟨rfl, r_y231_many⟩, ⟨rfl, r_y231_synced⟩⟩⟩⟩ := h230
     rintro v232 h233
     replace h233 : Vr.vd (vT3 (vA rXJournal) (vA rXDisk) (vI .i64)) _ _ _ _ := h233
     obtain ⟨v234, v235, v236, rfl, h237, h238, h239⟩ := h233
     obtain ⟨_, rfl, ⟨_, _, rfl, ⟨a_y240_records, c_y240_records, rfl, f_y240_records⟩, ⟨_, _, rfl, ⟨rfl, r_y240_many⟩, ⟨rfl, r_y240_synced⟩⟩⟩⟩ := h237
     obtain ⟨_, rfl, ⟨_, _, rfl, ⟨a_y241_sectors, c_y241_sectors, rfl, f_y241_sectors⟩, ⟨_, _, rfl, ⟨a_y241_pending, c_y241_pending, rfl, f_y241_pending⟩, ⟨_, _, rfl, ⟨rfl, r_y241_left⟩, rfl⟩⟩⟩⟩ := h238
     obtain ⟨rfl, r_y242⟩ := h239
     rintro v243 h244
     replace h244 : Vr.vd (vT3 (vA rXJournal) (vA rXDisk) (vI .i64)) _ _ _ _ := h244
     obtain ⟨v245, v246, v247, rfl, h248, h249, h250⟩ := h244
     obtain ⟨_, rfl, ⟨_, _, rfl, ⟨a_y251_records, c_y251_records, rfl, f_y251_records⟩, ⟨_, _, rfl, ⟨rfl, r_y251_many⟩, ⟨rfl, r_y251_synced⟩⟩⟩⟩ := h248
     obtain ⟨_, rfl, ⟨_, _, rfl, ⟨a_y252_sectors, c_y252_sectors, rfl, f_y252_sectors⟩, ⟨_, _, rfl, ⟨a_y252_pending, c_y252_pending, rfl, f_y252_pending⟩, ⟨_, _, rfl, ⟨rfl, r_y252_left⟩, rfl⟩⟩⟩⟩ := h249
     obtain ⟨rfl, r_y253⟩ := h250
     rintro _ rfl
     rintro v254 h255
     replace h255 : Vr.vd (vA rXJournal) _ _ _ _ := h255
     obtain ⟨_, rfl, ⟨_, _, rfl, ⟨a_y256_records, c_y256_records, rfl, f_y256_records⟩, ⟨_, _, rfl, ⟨rfl, r_y256_many⟩, ⟨rfl, r_y256_synced⟩⟩⟩⟩ := h255
     rintro _ rfl
     rintro v257 h258
     replace h258 : Vr.vd (vA rXJournal) _ _ _ _ := h258
     obtain ⟨_, rfl, ⟨_, _, rfl, ⟨a_y259_records, c_y259_records, rfl, f_y259_records⟩, ⟨_, _, rfl, ⟨rfl, r_y259_many⟩, ⟨rfl, r_y259_synced⟩⟩⟩⟩ := h258
     rintro _ rfl
     rintro _ rfl
     rintro _ rfl
     rintro _ rfl
     obtain ⟨hs216, p215⟩ := Step.nx2 hi213 h221 h218 (by decide)
     have p260 : Step (ks [(some b72, Obj.cells [(Value.slice a_y70_records open_1.1.records.length c_y70_records), (Value.int .i64 open_1.1.many), (Value.int .i64 open_1.1.synced)].toArray 52), (some b23, Obj.cells [(Value.slice a_y21_sectors new_1.1.sectors.length c_y21_sectors), (Value.slice a_y21_pending new_1.1.pending.length c_y21_pending), (Value.int .i64 new_1.1.left), (Value.bool new_1.1.stopped)].toArray 25)] O) w77 (ks [(some b220, Obj.cells [(Value.slice none 0 0), (Value.int .i64 0), (Value.int .i64 0)].toArray 52), (some b217, Obj.cells [(Value.slice none 0 0), (Value.slice none 0 0), (Value.int .i64 0), (Value.bool false)].toArray 25), (some b72, Obj.cells [(Value.slice a_y70_records open_1.1.records.length c_y70_records), (Value.int .i64 open_1.1.many), (Value.int .i64 open_1.1.synced)].toArray 52), (some b23, Obj.cells [(Value.slice a_y21_sectors new_1.1.sectors.length c_y21_sectors), (Value.slice a_y21_pending new_1.1.pending.length c_y21_pending), (Value.int .i64 new_1.1.left), (Value.bool new_1.1.stopped)].toArray 25)] O) w210 := hst214.trans p215
     replace f_y228_sectors := f_y228_sectors.step p215; replace f_y228_pending := f_y228_pending.step p215; replace f_y231_records := f_y231_records.step p215; replace f_y240_records := f_y240_records.step p215; replace f_y241_sectors := f_y241_sectors.step p215; replace f_y241_pending := f_y241_pending.step p215; replace f_y251_records := f_y251_records.step p215; replace f_y252_sectors := f_y252_sectors.step p215; replace f_y252_pending := f_y252_pending.step p215; replace f_y256_records := f_y256_records.step p215; replace f_y259_records := f_y259_records.step p215; replace f_a := f_a.step p260; replace f_b := f_b.step p260; replace f_y21_sectors := f_y21_sectors.step p260; replace f_y21_pending := f_y21_pending.step p260; replace F46 := F46.step p260; replace f_y70_records := f_y70_records.step p260; clear p260 hs79
     refine Rg_op_ (op_store (cs := [(Value.slice none 0 0), (Value.int .i64 0), (Value.int .i64 0)]) (vs := [(Value.slice a_y231_records sync_1.1.records.length c_y231_records), (Value.int .i64 sync_1.1.many), (Value.int .i64 sync_1.1.synced)]) (cs' := [(Value.slice a_y231_records sync_1.1.records.length c_y231_records), (Value.int .i64 sync_1.1.many), (Value.int .i64 sync_1.1.synced)]) (bs' := [(some b220, Obj.cells [(Value.slice a_y231_records sync_1.1.records.length c_y231_records), (Value.int .i64 sync_1.1.many), (Value.int .i64 sync_1.1.synced)].toArray 52), (some b217, Obj.cells [(Value.slice none 0 0), (Value.slice none 0 0), (Value.int .i64 0), (Value.bool false)].toArray 25), (some b72, Obj.cells [(Value.slice a_y70_records open_1.1.records.length c_y70_records), (Value.int .i64 open_1.1.many), (Value.int .i64 open_1.1.synced)].toArray 52), (some b23, Obj.cells [(Value.slice a_y21_sectors new_1.1.sectors.length c_y21_sectors), (Value.slice a_y21_pending new_1.1.pending.length c_y21_pending), (Value.int .i64 new_1.1.left), (Value.bool new_1.1.stopped)].toArray 25)]) (i := 0) ty52 hs216 rfl rfl rfl rfl rfl (le_lit rfl) rfl rfl rfl ?_)
     intro w261 p262 hs263
     replace f_a := f_a.step p262; replace f_b := f_b.step p262; replace f_y21_sectors := f_y21_sectors.step p262; replace f_y21_pending := f_y21_pending.step p262; replace F46 := F46.step p262; replace f_y70_records := f_y70_records.step p262; replace f_y228_sectors := f_y228_sectors.step p262; replace f_y228_pending := f_y228_pending.step p262; replace f_y231_records := f_y231_records.step p262; replace f_y240_records := f_y240_records.step p262; replace f_y241_sectors := f_y241_sectors.step p262; replace f_y241_pending := f_y241_pending.step p262; replace f_y251_records := f_y251_records.step p262; replace f_y252_sectors := f_y252_sectors.step p262; replace f_y252_pending := f_y252_pending.step p262; replace f_y256_records := f_y256_records.step p262; replace f_y259_records := f_y259_records.step p262; clear p262 hs216
     refine Rg_op_ (op_store (cs := [(Value.slice none 0 0), (Value.slice none 0 0), (Value.int .i64 0), (Value.bool false)]) (vs := [(Value.slice a_y228_sectors sync_1.2.1.sectors.length c_y228_sectors), (Value.slice a_y228_pending sync_1.2.1.pending.length c_y228_pending), (Value.int .i64 sync_1.2.1.left), (Value.bool sync_1.2.1.stopped)]) (cs' := [(Value.slice a_y228_sectors sync_1.2.1.sectors.length c_y228_sectors), (Value.slice a_y228_pending sync_1.2.1.pending.length c_y228_pending), (Value.int .i64 sync_1.2.1.left), (Value.bool sync_1.2.1.stopped)]) (bs' := [(some b220, Obj.cells [(Value.slice a_y231_records sync_1.1.records.length c_y231_records), (Value.int .i64 sync_1.1.many), (Value.int .i64 sync_1.1.synced)].toArray 52), (some b217, Obj.cells [(Value.slice a_y228_sectors sync_1.2.1.sectors.length c_y228_sectors), (Value.slice a_y228_pending sync_1.2.1.pending.length c_y228_pending), (Value.int .i64 sync_1.2.1.left), (Value.bool sync_1.2.1.stopped)].toArray 25), (some b72, Obj.cells [(Value.slice a_y70_records open_1.1.records.length c_y70_records), (Value.int .i64 open_1.1.many), (Value.int .i64 open_1.1.synced)].toArray 52), (some b23, Obj.cells [(Value.slice a_y21_sectors new_1.1.sectors.length c_y21_sectors), (Value.slice a_y21_pending new_1.1.pending.length c_y21_pending), (Value.int .i64 new_1.1.left), (Value.bool new_1.1.stopped)].toArray 25)]) (i := 1) ty25 hs263 rfl rfl rfl rfl rfl (le_lit rfl) rfl rfl rfl ?_)
     intro w264 p265 hs266
     replace f_a := f_a.step p265; replace f_b := f_b.step p265; replace f_y21_sectors := f_y21_sectors.step p265; replace f_y21_pending := f_y21_pending.step p265; replace F46 := F46.step p265; replace f_y70_records := f_y70_records.step p265; replace f_y228_sectors := f_y228_sectors.step p265; replace f_y228_pending := f_y228_pending.step p265; replace f_y231_records := f_y231_records.step p265; replace f_y240_records := f_y240_records.step p265; replace f_y241_sectors := f_y241_sectors.step p265; replace f_y241_pending := f_y241_pending.step p265; replace f_y251_records := f_y251_records.step p265; replace f_y252_sectors := f_y252_sectors.step p265; replace f_y252_pending := f_y252_pending.step p265; replace f_y256_records := f_y256_records.step p265; replace f_y259_records := f_y259_records.step p265; clear p265 hs263
     refine Rg_op rfl (op_assign (v := (Value.int .i64 sync_1.2.2)) rfl ?_)
     refine Rg_nil ?_
     refine Wp_seq ?_
     clear f_y240_records f_y241_sectors f_y241_pending f_y251_records f_y252_sectors f_y252_pending f_y256_records f_y259_records
     refine Wp_reset [] [(0, (Value.slice a_a a.length c_a)), (1, (Value.slice a_b b.length c_b)), (5, (Value.pointer (some ⟨b23, 0, none⟩))), (7, (Value.func (.func 40) #[] #[])), (8, (Value.pointer (some ⟨b72, 0, none⟩))), (10, (Value.pointer (some ⟨b220, 0, none⟩))), (11, (Value.pointer (some ⟨b217, 0, none⟩))), (12, (Value.int .i64 sync_1.2.2))] rfl ⟨rfl, rfl, rfl, rfl, rfl, rfl, rfl, rfl, trivial⟩ fun ξ267 => ?_
     refine Wp_drawR (g0 := []) (m := 12) (fl := [8, 9]) (TS_inv hs266) rfl (.inl rfl) rfl (by decide +kernel) ?_  -- 11
     refine Dw_eq (Value.func (.func 40) #[] #[]) (fun ρ268 w269 g hle hi ht => ?_) ?_
     ·
      obtain ⟨-, hst, -⟩ := hle
      refine StepOp_plain (op_move (v := (Value.func (.func 40) #[] #[])) (ht 7 rfl) ?_)
      exact Goes.same hi rfl
     refine Dw_eq (Value.agg [(Value.slice a_y70_records open_1.1.records.length c_y70_records), (Value.int .i64 open_1.1.many), (Value.int .i64 open_1.1.synced)].toArray) (fun ρ271 w272 g hle hi ht => ?_) ?_
     ·
      obtain ⟨-, hst, -⟩ := hle
      have hsn := (Step.nx hi).1
      refine StepOp_plain (op_loadA (cs := [(Value.slice a_y70_records open_1.1.records.length c_y70_records), (Value.int .i64 open_1.1.many), (Value.int .i64 open_1.1.synced)]) (vs := [(Value.slice a_y70_records open_1.1.records.length c_y70_records), (Value.int .i64 open_1.1.many), (Value.int .i64 open_1.1.synced)]) (i := 2) ty52 hsn (ht 8 rfl) rfl rfl rfl ?_)
      exact Goes.same hi rfl
     refine Dw_eq (Value.slice a_a a.length c_a) (fun ρ274 w275 g hle hi ht => ?_) ?_
     ·
      obtain ⟨-, hst, -⟩ := hle
      refine StepOp_plain (op_move (v := (Value.slice a_a a.length c_a)) (ht 0 rfl) ?_)
      exact Goes.same hi rfl
     replace hm := bd hm; obtain ⟨r_3, hv280, hm⟩ := hm
     refine Dw_op (VD O [(some b220, Obj.cells [(Value.slice a_y231_records sync_1.1.records.length c_y231_records), (Value.int .i64 sync_1.1.many), (Value.int .i64 sync_1.1.synced)].toArray 52), (some b217, Obj.cells [(Value.slice a_y228_sectors sync_1.2.1.sectors.length c_y228_sectors), (Value.slice a_y228_pending sync_1.2.1.pending.length c_y228_pending), (Value.int .i64 sync_1.2.1.left), (Value.bool sync_1.2.1.stopped)].toArray 25), (some b72, Obj.cells [(Value.slice a_y70_records open_1.1.records.length c_y70_records), (Value.int .i64 open_1.1.many), (Value.int .i64 open_1.1.synced)].toArray 52), (some b23, Obj.cells [(Value.slice a_y21_sectors new_1.1.sectors.length c_y21_sectors), (Value.slice a_y21_pending new_1.1.pending.length c_y21_pending), (Value.int .i64 new_1.1.left), (Value.bool new_1.1.stopped)].toArray 25)] (vA rXJournal) r_3) (VD.stab _ _) (fun ρ277 w278 g hle hi ht => ?_) ?_
     ·
      obtain ⟨-, hst, -⟩ := hle
      replace f_a := f_a.step hst; replace F46 := F46.step hst; replace f_y70_records := f_y70_records.step hst
      refine StepOp_plain (op_callF (ht 67 rfl) (F46.call hi.ltw (mkA (mkVia (mk_pair (mk_sl f_y70_records) (mk_pair (mk_int r_y70_many) (mk_int r_y70_synced))))) (mkC (mk_sl f_a)) hv280) (by simp only [List.map, Array.toList, (show ev _ (.tmp 68) = _ from (ht 68 rfl)), (show ev _ (.tmp 69) = _ from (ht 69 rfl))] <;> rfl) ?_)
      rintro v281 w282 ⟨hx283, h284⟩
      exact Goes.call hi hx283 h284
     refine Dw_eq (Value.agg [(Value.slice a_y21_sectors new_1.1.sectors.length c_y21_sectors), (Value.slice a_y21_pending new_1.1.pending.length c_y21_pending), (Value.int .i64 new_1.1.left), (Value.bool new_1.1.stopped)].toArray) (fun ρ286 w287 g hle hi ht => ?_) ?_
     ·
      obtain ⟨-, hst, -⟩ := hle
      have hsn := (Step.nx hi).1
      refine StepOp_plain (op_loadA (cs := [(Value.slice a_y21_sectors new_1.1.sectors.length c_y21_sectors), (Value.slice a_y21_pending new_1.1.pending.length c_y21_pending), (Value.int .i64 new_1.1.left), (Value.bool new_1.1.stopped)]) (vs := [(Value.slice a_y21_sectors new_1.1.sectors.length c_y21_sectors), (Value.slice a_y21_pending new_1.1.pending.length c_y21_pending), (Value.int .i64 new_1.1.left), (Value.bool new_1.1.stopped)]) (i := 3) ty25 hsn (ht 5 rfl) rfl rfl rfl ?_)
      exact Goes.same hi rfl
     replace hm := bd hm; obtain ⟨sync_2, hv295, hm⟩ := hm
     refine Dw_op (VD O [(some b220, Obj.cells [(Value.slice a_y231_records sync_1.1.records.length c_y231_records), (Value.int .i64 sync_1.1.many), (Value.int .i64 sync_1.1.synced)].toArray 52), (some b217, Obj.cells [(Value.slice a_y228_sectors sync_1.2.1.sectors.length c_y228_sectors), (Value.slice a_y228_pending sync_1.2.1.pending.length c_y228_pending), (Value.int .i64 sync_1.2.1.left), (Value.bool sync_1.2.1.stopped)].toArray 25), (some b72, Obj.cells [(Value.slice a_y70_records open_1.1.records.length c_y70_records), (Value.int .i64 open_1.1.many), (Value.int .i64 open_1.1.synced)].toArray 52), (some b23, Obj.cells [(Value.slice a_y21_sectors new_1.1.sectors.length c_y21_sectors), (Value.slice a_y21_pending new_1.1.pending.length c_y21_pending), (Value.int .i64 new_1.1.left), (Value.bool new_1.1.stopped)].toArray 25)] (vT3 (vA rXJournal) (vA rXDisk) (vI .i64)) sync_2) (VD.stab _ _) (fun ρ289 w290 g hle hi ht => ?_) ?_
     ·
      obtain ⟨-, hst, -⟩ := hle
      replace f_y21_sectors := f_y21_sectors.step hst; replace f_y21_pending := f_y21_pending.step hst
      have h292 : Vr.vd (vA rXJournal) _ _ _ _ := ht 70 rfl
      obtain ⟨_, q293, ⟨_, _, rfl, ⟨a_y294_records, c_y294_records, rfl, f_y294_records⟩, ⟨_, _, rfl, ⟨rfl, r_y294_many⟩, ⟨rfl, r_y294_synced⟩⟩⟩⟩ := h292
      refine StepOp_plain (op_call Try.call39 (c39_journal_Sync (O := ks (ents g ++ [(some b220, Obj.cells [(Value.slice a_y231_records sync_1.1.records.length c_y231_records), (Value.int .i64 sync_1.1.many), (Value.int .i64 sync_1.1.synced)].toArray 52), (some b217, Obj.cells [(Value.slice a_y228_sectors sync_1.2.1.sectors.length c_y228_sectors), (Value.slice a_y228_pending sync_1.2.1.pending.length c_y228_pending), (Value.int .i64 sync_1.2.1.left), (Value.bool sync_1.2.1.stopped)].toArray 25), (some b72, Obj.cells [(Value.slice a_y70_records open_1.1.records.length c_y70_records), (Value.int .i64 open_1.1.many), (Value.int .i64 open_1.1.synced)].toArray 52), (some b23, Obj.cells [(Value.slice a_y21_sectors new_1.1.sectors.length c_y21_sectors), (Value.slice a_y21_pending new_1.1.pending.length c_y21_pending), (Value.int .i64 new_1.1.left), (Value.bool new_1.1.stopped)].toArray 25)]) O) (l := r_3) (d := new_1.1) hi.ltw f_y294_records r_y294_many r_y294_synced f_y21_sectors f_y21_pending r_y21_left hv295) (by simp only [List.map, Array.toList, (show ev _ (.tmp 70) = _ from q293), (show ev _ (.tmp 71) = _ from (ht 71 rfl))] <;> rfl) ?_)
      rintro v296 w297 ⟨hx298, h299⟩
      exact Goes.call hi hx298 h299
     refine Dw_op (VD O [(some b220, Obj.cells [(Value.slice a_y231_records sync_1.1.records.length c_y231_records), (Value.int .i64 sync_1.1.many), (Value.int .i64 sync_1.1.synced)].toArray 52), (some b217, Obj.cells [(Value.slice a_y228_sectors sync_1.2.1.sectors.length c_y228_sectors), (Value.slice a_y228_pending sync_1.2.1.pending.length c_y228_pending), (Value.int .i64 sync_1.2.1.left), (Value.bool sync_1.2.1.stopped)].toArray 25), (some b72, Obj.cells [(Value.slice a_y70_records open_1.1.records.length c_y70_records), (Value.int .i64 open_1.1.many), (Value.int .i64 open_1.1.synced)].toArray 52), (some b23, Obj.cells [(Value.slice a_y21_sectors new_1.1.sectors.length c_y21_sectors), (Value.slice a_y21_pending new_1.1.pending.length c_y21_pending), (Value.int .i64 new_1.1.left), (Value.bool new_1.1.stopped)].toArray 25)] (vT3 (vA rXJournal) (vA rXDisk) (vI .i64)) sync_2) (VD.stab _ _) (fun ρ301 w302 g hle hi ht => ?_) ?_
     ·
      obtain ⟨-, hst, -⟩ := hle
      have h : Vr.vd (vT3 (vA rXJournal) (vA rXDisk) (vI .i64)) _ _ _ _ := ht 72 rfl
      refine StepOp_plain (op_move rfl (Goes.same hi h))
     refine Dw_op (VD O [(some b220, Obj.cells [(Value.slice a_y231_records sync_1.1.records.length c_y231_records), (Value.int .i64 sync_1.1.many), (Value.int .i64 sync_1.1.synced)].toArray 52), (some b217, Obj.cells [(Value.slice a_y228_sectors sync_1.2.1.sectors.length c_y228_sectors), (Value.slice a_y228_pending sync_1.2.1.pending.length c_y228_pending), (Value.int .i64 sync_1.2.1.left), (Value.bool sync_1.2.1.stopped)].toArray 25), (some b72, Obj.cells [(Value.slice a_y70_records open_1.1.records.length c_y70_records), (Value.int .i64 open_1.1.many), (Value.int .i64 open_1.1.synced)].toArray 52), (some b23, Obj.cells [(Value.slice a_y21_sectors new_1.1.sectors.length c_y21_sectors), (Value.slice a_y21_pending new_1.1.pending.length c_y21_pending), (Value.int .i64 new_1.1.left), (Value.bool new_1.1.stopped)].toArray 25)] (vA rXJournal) sync_2.1) (VD.stab _ _) (fun ρ315 w316 g hle hi ht => ?_) ?_
     ·
      obtain ⟨-, hst, -⟩ := hle
      have h318 : Vr.vd (vT3 (vA rXJournal) (vA rXDisk) (vI .i64)) _ _ _ _ := ht 66 rfl
      obtain ⟨v320, v321, v322, q319, h323, h324, h325⟩ := h318
      obtain ⟨_, rfl, ⟨_, _, rfl, ⟨a_y326_records, c_y326_records, rfl, f_y326_records⟩, ⟨_, _, rfl, ⟨rfl, r_y326_many⟩, ⟨rfl, r_y326_synced⟩⟩⟩⟩ := h323
      obtain ⟨_, rfl, ⟨_, _, rfl, ⟨a_y327_sectors, c_y327_sectors, rfl, f_y327_sectors⟩, ⟨_, _, rfl, ⟨a_y327_pending, c_y327_pending, rfl, f_y327_pending⟩, ⟨_, _, rfl, ⟨rfl, r_y327_left⟩, rfl⟩⟩⟩⟩ := h324
      obtain ⟨rfl, r_y328⟩ := h325
      refine StepOp_plain (op_extract (v := (Value.agg [(Value.slice a_y326_records sync_2.1.records.length c_y326_records), (Value.int .i64 sync_2.1.many), (Value.int .i64 sync_2.1.synced)].toArray)) q319 rfl ?_)
      exact Goes.same hi (show Vr.vd (vA rXJournal) _ _ _ _ from (mkA (mkVia (mk_pair (mk_sl f_y326_records) (mk_pair (mk_int r_y326_many) (mk_int r_y326_synced))))))
     refine Dw_op (VD O [(some b220, Obj.cells [(Value.slice a_y231_records sync_1.1.records.length c_y231_records), (Value.int .i64 sync_1.1.many), (Value.int .i64 sync_1.1.synced)].toArray 52), (some b217, Obj.cells [(Value.slice a_y228_sectors sync_1.2.1.sectors.length c_y228_sectors), (Value.slice a_y228_pending sync_1.2.1.pending.length c_y228_pending), (Value.int .i64 sync_1.2.1.left), (Value.bool sync_1.2.1.stopped)].toArray 25), (some b72, Obj.cells [(Value.slice a_y70_records open_1.1.records.length c_y70_records), (Value.int .i64 open_1.1.many), (Value.int .i64 open_1.1.synced)].toArray 52), (some b23, Obj.cells [(Value.slice a_y21_sectors new_1.1.sectors.length c_y21_sectors), (Value.slice a_y21_pending new_1.1.pending.length c_y21_pending), (Value.int .i64 new_1.1.left), (Value.bool new_1.1.stopped)].toArray 25)] (vA rXDisk) sync_2.2.1) (VD.stab _ _) (fun ρ329 w330 g hle hi ht => ?_) ?_
     ·
      obtain ⟨-, hst, -⟩ := hle
      have h332 : Vr.vd (vT3 (vA rXJournal) (vA rXDisk) (vI .i64)) _ _ _ _ := ht 66 rfl
      obtain ⟨v334, v335, v336, q333, h337, h338, h339⟩ := h332
      obtain ⟨_, rfl, ⟨_, _, rfl, ⟨a_y340_records, c_y340_records, rfl, f_y340_records⟩, ⟨_, _, rfl, ⟨rfl, r_y340_many⟩, ⟨rfl, r_y340_synced⟩⟩⟩⟩ := h337
      obtain ⟨_, rfl, ⟨_, _, rfl, ⟨a_y341_sectors, c_y341_sectors, rfl, f_y341_sectors⟩, ⟨_, _, rfl, ⟨a_y341_pending, c_y341_pending, rfl, f_y341_pending⟩, ⟨_, _, rfl, ⟨rfl, r_y341_left⟩, rfl⟩⟩⟩⟩ := h338
      obtain ⟨rfl, r_y342⟩ := h339
      refine StepOp_plain (op_extract (v := (Value.agg [(Value.slice a_y341_sectors sync_2.2.1.sectors.length c_y341_sectors), (Value.slice a_y341_pending sync_2.2.1.pending.length c_y341_pending), (Value.int .i64 sync_2.2.1.left), (Value.bool sync_2.2.1.stopped)].toArray)) q333 rfl ?_)
      exact Goes.same hi (show Vr.vd (vA rXDisk) _ _ _ _ from (mkA (mkVia (mk_pair (mk_sl f_y341_sectors) (mk_pair (mk_sl f_y341_pending) (mk_pair (mk_int r_y341_left) mkBool))))))
     refine Dw_op (VD O [(some b220, Obj.cells [(Value.slice a_y231_records sync_1.1.records.length c_y231_records), (Value.int .i64 sync_1.1.many), (Value.int .i64 sync_1.1.synced)].toArray 52), (some b217, Obj.cells [(Value.slice a_y228_sectors sync_1.2.1.sectors.length c_y228_sectors), (Value.slice a_y228_pending sync_1.2.1.pending.length c_y228_pending), (Value.int .i64 sync_1.2.1.left), (Value.bool sync_1.2.1.stopped)].toArray 25), (some b72, Obj.cells [(Value.slice a_y70_records open_1.1.records.length c_y70_records), (Value.int .i64 open_1.1.many), (Value.int .i64 open_1.1.synced)].toArray 52), (some b23, Obj.cells [(Value.slice a_y21_sectors new_1.1.sectors.length c_y21_sectors), (Value.slice a_y21_pending new_1.1.pending.length c_y21_pending), (Value.int .i64 new_1.1.left), (Value.bool new_1.1.stopped)].toArray 25)] (vI .i64) sync_2.2.2) (VD.stab _ _) (fun ρ343 w344 g hle hi ht => ?_) ?_
     ·
      obtain ⟨-, hst, -⟩ := hle
      have h346 : Vr.vd (vT3 (vA rXJournal) (vA rXDisk) (vI .i64)) _ _ _ _ := ht 66 rfl
      obtain ⟨v348, v349, v350, q347, h351, h352, h353⟩ := h346
      obtain ⟨_, rfl, ⟨_, _, rfl, ⟨a_y354_records, c_y354_records, rfl, f_y354_records⟩, ⟨_, _, rfl, ⟨rfl, r_y354_many⟩, ⟨rfl, r_y354_synced⟩⟩⟩⟩ := h351
      obtain ⟨_, rfl, ⟨_, _, rfl, ⟨a_y355_sectors, c_y355_sectors, rfl, f_y355_sectors⟩, ⟨_, _, rfl, ⟨a_y355_pending, c_y355_pending, rfl, f_y355_pending⟩, ⟨_, _, rfl, ⟨rfl, r_y355_left⟩, rfl⟩⟩⟩⟩ := h352
      obtain ⟨rfl, r_y356⟩ := h353
      refine StepOp_plain (op_extract (v := (Value.int .i64 sync_2.2.2)) q347 rfl ?_)
      exact Goes.same hi (show Vr.vd (vI .i64) _ _ _ _ from ⟨rfl, r_y356⟩)
     refine Dw_op (VN 13 (Obj.cells [(Value.slice none 0 0), (Value.int .i64 0), (Value.int .i64 0)].toArray 52)) (VN.stab _ _) (fun ρ357 w358 g hle hi ht => ?_) ?_
     ·
      obtain ⟨-, hst, -⟩ := hle
      refine StepOp_plain (op_alloc ty52 hi ?_)
      intro b360 w361 hx364 p362 hs363; exact Goes.new hi p362 hs363 hx364
     refine Dw_op (VN 14 (Obj.cells [(Value.slice none 0 0), (Value.slice none 0 0), (Value.int .i64 0), (Value.bool false)].toArray 25)) (VN.stab _ _) (fun ρ365 w366 g hle hi ht => ?_) ?_
     ·
      obtain ⟨-, hst, -⟩ := hle
      refine StepOp_plain (op_alloc ty25 hi ?_)
      intro b368 w369 hx372 p370 hs371; exact Goes.new hi p370 hs371 hx372
     refine Dw_nil fun w377 g378 hl379 hi380 => ?_
     obtain ⟨-, hst381, -⟩ := hl379
     rintro _ ⟨b384, rfl, h385⟩
     rintro _ ⟨b387, rfl, h388⟩
     rintro v390 h391
     replace h391 : Vr.vd (vI .i64) _ _ _ _ := h391
     obtain ⟨rfl, r_y392⟩ := h391
     rintro v393 h394
     replace h394 : Vr.vd (vA rXDisk) _ _ _ _ := h394
     obtain ⟨_, rfl, ⟨_, _, rfl, ⟨a_y395_sectors, c_y395_sectors, rfl, f_y395_sectors⟩, ⟨_, _, rfl, ⟨a_y395_pending, c_y395_pending, rfl, f_y395_pending⟩, ⟨_, _, rfl, ⟨rfl, r_y395_left⟩, rfl⟩⟩⟩⟩ := h394
     rintro v396 h397
     replace h397 : Vr.vd (vA rXJournal) _ _ _ _ := h397
     obtain ⟨_, rfl, ⟨_, _, rfl, ⟨a_y398_records, c_y398_records, rfl, f_y398_records⟩, ⟨_, _, rfl, ⟨rfl, r_y398_many⟩, ⟨rfl, r_y398_synced⟩⟩⟩⟩ := h397
     rintro v399 h400
     replace h400 : Vr.vd (vT3 (vA rXJournal) (vA rXDisk) (vI .i64)) _ _ _ _ := h400
     obtain ⟨v401, v402, v403, rfl, h404, h405, h406⟩ := h400
     obtain ⟨_, rfl, ⟨_, _, rfl, ⟨a_y407_records, c_y407_records, rfl, f_y407_records⟩, ⟨_, _, rfl, ⟨rfl, r_y407_many⟩, ⟨rfl, r_y407_synced⟩⟩⟩⟩ := h404
     obtain ⟨_, rfl, ⟨_, _, rfl, ⟨a_y408_sectors, c_y408_sectors, rfl, f_y408_sectors⟩, ⟨_, _, rfl, ⟨a_y408_pending, c_y408_pending, rfl, f_y408_pending⟩, ⟨_, _, rfl, ⟨rfl, r_y408_left⟩, rfl⟩⟩⟩⟩ := h405
     obtain ⟨rfl, r_y409⟩ := h406
     rintro v410 h411
     replace h411 : Vr.vd (vT3 (vA rXJournal) (vA rXDisk) (vI .i64)) _ _ _ _ := h411
     obtain ⟨v412, v413, v414, rfl, h415, h416, h417⟩ := h411
     obtain ⟨_, rfl, ⟨_, _, rfl, ⟨a_y418_records, c_y418_records, rfl, f_y418_records⟩, ⟨_, _, rfl, ⟨rfl, r_y418_many⟩, ⟨rfl, r_y418_synced⟩⟩⟩⟩ := h415
     obtain ⟨_, rfl, ⟨_, _, rfl, ⟨a_y419_sectors, c_y419_sectors, rfl, f_y419_sectors⟩, ⟨_, _, rfl, ⟨a_y419_pending, c_y419_pending, rfl, f_y419_pending⟩, ⟨_, _, rfl, ⟨rfl, r_y419_left⟩, rfl⟩⟩⟩⟩ := h416
     obtain ⟨rfl, r_y420⟩ := h417
     rintro _ rfl
     rintro v421 h422
     replace h422 : Vr.vd (vA rXJournal) _ _ _ _ := h422
     obtain ⟨_, rfl, ⟨_, _, rfl, ⟨a_y423_records, c_y423_records, rfl, f_y423_records⟩, ⟨_, _, rfl, ⟨rfl, r_y423_many⟩, ⟨rfl, r_y423_synced⟩⟩⟩⟩ := h422
     rintro _ rfl
     rintro _ rfl
     rintro _ rfl
     obtain ⟨hs383, p382⟩ := Step.nx2 hi380 h388 h385 (by decide)
     have p424 : Step (ks [(some b220, Obj.cells [(Value.slice a_y231_records sync_1.1.records.length c_y231_records), (Value.int .i64 sync_1.1.many), (Value.int .i64 sync_1.1.synced)].toArray 52), (some b217, Obj.cells [(Value.slice a_y228_sectors sync_1.2.1.sectors.length c_y228_sectors), (Value.slice a_y228_pending sync_1.2.1.pending.length c_y228_pending), (Value.int .i64 sync_1.2.1.left), (Value.bool sync_1.2.1.stopped)].toArray 25), (some b72, Obj.cells [(Value.slice a_y70_records open_1.1.records.length c_y70_records), (Value.int .i64 open_1.1.many), (Value.int .i64 open_1.1.synced)].toArray 52), (some b23, Obj.cells [(Value.slice a_y21_sectors new_1.1.sectors.length c_y21_sectors), (Value.slice a_y21_pending new_1.1.pending.length c_y21_pending), (Value.int .i64 new_1.1.left), (Value.bool new_1.1.stopped)].toArray 25)] O) w264 (ks [(some b387, Obj.cells [(Value.slice none 0 0), (Value.int .i64 0), (Value.int .i64 0)].toArray 52), (some b384, Obj.cells [(Value.slice none 0 0), (Value.slice none 0 0), (Value.int .i64 0), (Value.bool false)].toArray 25), (some b220, Obj.cells [(Value.slice a_y231_records sync_1.1.records.length c_y231_records), (Value.int .i64 sync_1.1.many), (Value.int .i64 sync_1.1.synced)].toArray 52), (some b217, Obj.cells [(Value.slice a_y228_sectors sync_1.2.1.sectors.length c_y228_sectors), (Value.slice a_y228_pending sync_1.2.1.pending.length c_y228_pending), (Value.int .i64 sync_1.2.1.left), (Value.bool sync_1.2.1.stopped)].toArray 25), (some b72, Obj.cells [(Value.slice a_y70_records open_1.1.records.length c_y70_records), (Value.int .i64 open_1.1.many), (Value.int .i64 open_1.1.synced)].toArray 52), (some b23, Obj.cells [(Value.slice a_y21_sectors new_1.1.sectors.length c_y21_sectors), (Value.slice a_y21_pending new_1.1.pending.length c_y21_pending), (Value.int .i64 new_1.1.left), (Value.bool new_1.1.stopped)].toArray 25)] O) w377 := hst381.trans p382
     replace f_y395_sectors := f_y395_sectors.step p382; replace f_y395_pending := f_y395_pending.step p382; replace f_y398_records := f_y398_records.step p382; replace f_y407_records := f_y407_records.step p382; replace f_y408_sectors := f_y408_sectors.step p382; replace f_y408_pending := f_y408_pending.step p382; replace f_y418_records := f_y418_records.step p382; replace f_y419_sectors := f_y419_sectors.step p382; replace f_y419_pending := f_y419_pending.step p382; replace f_y423_records := f_y423_records.step p382; replace f_a := f_a.step p424; replace f_b := f_b.step p424; replace f_y21_sectors := f_y21_sectors.step p424; replace f_y21_pending := f_y21_pending.step p424; replace F46 := F46.step p424; replace f_y70_records := f_y70_records.step p424; replace f_y228_sectors := f_y228_sectors.step p424; replace f_y228_pending := f_y228_pending.step p424; replace f_y231_records := f_y231_records.step p424; clear p424 hs266
     refine Rg_op_ (op_store (cs := [(Value.slice none 0 0), (Value.int .i64 0), (Value.int .i64 0)]) (vs := [(Value.slice a_y398_records sync_2.1.records.length c_y398_records), (Value.int .i64 sync_2.1.many), (Value.int .i64 sync_2.1.synced)]) (cs' := [(Value.slice a_y398_records sync_2.1.records.length c_y398_records), (Value.int .i64 sync_2.1.many), (Value.int .i64 sync_2.1.synced)]) (bs' := [(some b387, Obj.cells [(Value.slice a_y398_records sync_2.1.records.length c_y398_records), (Value.int .i64 sync_2.1.many), (Value.int .i64 sync_2.1.synced)].toArray 52), (some b384, Obj.cells [(Value.slice none 0 0), (Value.slice none 0 0), (Value.int .i64 0), (Value.bool false)].toArray 25), (some b220, Obj.cells [(Value.slice a_y231_records sync_1.1.records.length c_y231_records), (Value.int .i64 sync_1.1.many), (Value.int .i64 sync_1.1.synced)].toArray 52), (some b217, Obj.cells [(Value.slice a_y228_sectors sync_1.2.1.sectors.length c_y228_sectors), (Value.slice a_y228_pending sync_1.2.1.pending.length c_y228_pending), (Value.int .i64 sync_1.2.1.left), (Value.bool sync_1.2.1.stopped)].toArray 25), (some b72, Obj.cells [(Value.slice a_y70_records open_1.1.records.length c_y70_records), (Value.int .i64 open_1.1.many), (Value.int .i64 open_1.1.synced)].toArray 52), (some b23, Obj.cells [(Value.slice a_y21_sectors new_1.1.sectors.length c_y21_sectors), (Value.slice a_y21_pending new_1.1.pending.length c_y21_pending), (Value.int .i64 new_1.1.left), (Value.bool new_1.1.stopped)].toArray 25)]) (i := 0) ty52 hs383 rfl rfl rfl rfl rfl (le_lit rfl) rfl rfl rfl ?_)
     intro w425 p426 hs427
     replace f_a := f_a.step p426; replace f_b := f_b.step p426; replace f_y21_sectors := f_y21_sectors.step p426; replace f_y21_pending := f_y21_pending.step p426; replace F46 := F46.step p426; replace f_y70_records := f_y70_records.step p426; replace f_y228_sectors := f_y228_sectors.step p426; replace f_y228_pending := f_y228_pending.step p426; replace f_y231_records := f_y231_records.step p426; replace f_y395_sectors := f_y395_sectors.step p426; replace f_y395_pending := f_y395_pending.step p426; replace f_y398_records := f_y398_records.step p426; replace f_y407_records := f_y407_records.step p426; replace f_y408_sectors := f_y408_sectors.step p426; replace f_y408_pending := f_y408_pending.step p426; replace f_y418_records := f_y418_records.step p426; replace f_y419_sectors := f_y419_sectors.step p426; replace f_y419_pending := f_y419_pending.step p426; replace f_y423_records := f_y423_records.step p426; clear p426 hs383
     refine Rg_op_ (op_store (cs := [(Value.slice none 0 0), (Value.slice none 0 0), (Value.int .i64 0), (Value.bool false)]) (vs := [(Value.slice a_y395_sectors sync_2.2.1.sectors.length c_y395_sectors), (Value.slice a_y395_pending sync_2.2.1.pending.length c_y395_pending), (Value.int .i64 sync_2.2.1.left), (Value.bool sync_2.2.1.stopped)]) (cs' := [(Value.slice a_y395_sectors sync_2.2.1.sectors.length c_y395_sectors), (Value.slice a_y395_pending sync_2.2.1.pending.length c_y395_pending), (Value.int .i64 sync_2.2.1.left), (Value.bool sync_2.2.1.stopped)]) (bs' := [(some b387, Obj.cells [(Value.slice a_y398_records sync_2.1.records.length c_y398_records), (Value.int .i64 sync_2.1.many), (Value.int .i64 sync_2.1.synced)].toArray 52), (some b384, Obj.cells [(Value.slice a_y395_sectors sync_2.2.1.sectors.length c_y395_sectors), (Value.slice a_y395_pending sync_2.2.1.pending.length c_y395_pending), (Value.int .i64 sync_2.2.1.left), (Value.bool sync_2.2.1.stopped)].toArray 25), (some b220, Obj.cells [(Value.slice a_y231_records sync_1.1.records.length c_y231_records), (Value.int .i64 sync_1.1.many), (Value.int .i64 sync_1.1.synced)].toArray 52), (some b217, Obj.cells [(Value.slice a_y228_sectors sync_1.2.1.sectors.length c_y228_sectors), (Value.slice a_y228_pending sync_1.2.1.pending.length c_y228_pending), (Value.int .i64 sync_1.2.1.left), (Value.bool sync_1.2.1.stopped)].toArray 25), (some b72, Obj.cells [(Value.slice a_y70_records open_1.1.records.length c_y70_records), (Value.int .i64 open_1.1.many), (Value.int .i64 open_1.1.synced)].toArray 52), (some b23, Obj.cells [(Value.slice a_y21_sectors new_1.1.sectors.length c_y21_sectors), (Value.slice a_y21_pending new_1.1.pending.length c_y21_pending), (Value.int .i64 new_1.1.left), (Value.bool new_1.1.stopped)].toArray 25)]) (i := 1) ty25 hs427 rfl rfl rfl rfl rfl (le_lit rfl) rfl rfl rfl ?_)
     intro w428 p429 hs430
     replace f_a := f_a.step p429; replace f_b := f_b.step p429; replace f_y21_sectors := f_y21_sectors.step p429; replace f_y21_pending := f_y21_pending.step p429; replace F46 := F46.step p429; replace f_y70_records := f_y70_records.step p429; replace f_y228_sectors := f_y228_sectors.step p429; replace f_y228_pending := f_y228_pending.step p429; replace f_y231_records := f_y231_records.step p429; replace f_y395_sectors := f_y395_sectors.step p429; replace f_y395_pending := f_y395_pending.step p429; replace f_y398_records := f_y398_records.step p429; replace f_y407_records := f_y407_records.step p429; replace f_y408_sectors := f_y408_sectors.step p429; replace f_y408_pending := f_y408_pending.step p429; replace f_y418_records := f_y418_records.step p429; replace f_y419_sectors := f_y419_sectors.step p429; replace f_y419_pending := f_y419_pending.step p429; replace f_y423_records := f_y423_records.step p429; clear p429 hs427
     refine Rg_op rfl (op_assign (v := (Value.int .i64 sync_2.2.2)) rfl ?_)
     refine Rg_nil ?_
     refine Wp_seq ?_
     obtain ⟨hs431, p432⟩ := hs430.sub (bs' := [(some b387, Obj.cells [(Value.slice a_y398_records sync_2.1.records.length c_y398_records), (Value.int .i64 sync_2.1.many), (Value.int .i64 sync_2.1.synced)].toArray 52), (some b384, Obj.cells [(Value.slice a_y395_sectors sync_2.2.1.sectors.length c_y395_sectors), (Value.slice a_y395_pending sync_2.2.1.pending.length c_y395_pending), (Value.int .i64 sync_2.2.1.left), (Value.bool sync_2.2.1.stopped)].toArray 25), (some b220, Obj.cells [(Value.slice a_y231_records sync_1.1.records.length c_y231_records), (Value.int .i64 sync_1.1.many), (Value.int .i64 sync_1.1.synced)].toArray 52), (some b217, Obj.cells [(Value.slice a_y228_sectors sync_1.2.1.sectors.length c_y228_sectors), (Value.slice a_y228_pending sync_1.2.1.pending.length c_y228_pending), (Value.int .i64 sync_1.2.1.left), (Value.bool sync_1.2.1.stopped)].toArray 25)]) (.cons_cons _ (.cons_cons _ (.cons_cons _ (.cons_cons _ (.cons _ (.cons _ List.Sublist.slnil))))))
     clear f_a f_y21_sectors f_y21_pending f_y70_records f_y407_records f_y408_sectors f_y408_pending f_y418_records f_y419_sectors f_y419_pending f_y423_records
     replace f_b := f_b.step p432; replace F46 := F46.step p432; replace f_y228_sectors := f_y228_sectors.step p432; replace f_y228_pending := f_y228_pending.step p432; replace f_y231_records := f_y231_records.step p432; replace f_y395_sectors := f_y395_sectors.step p432; replace f_y395_pending := f_y395_pending.step p432; replace f_y398_records := f_y398_records.step p432; clear p432 hs430
     refine Wp_drawR (g0 := []) (m := 12) (fl := [8, 9]) (TS_inv hs431) rfl (.inl rfl) rfl (by decide +kernel) ?_  -- 12
     refine Dw_eq (Value.func (.func 40) #[] #[]) (fun ρ433 w434 g hle hi ht => ?_) ?_
     ·
      obtain ⟨-, hst, -⟩ := hle
      refine StepOp_plain (op_move (v := (Value.func (.func 40) #[] #[])) (ht 7 rfl) ?_)
      exact Goes.same hi rfl
     refine Dw_eq (Value.agg [(Value.slice a_y398_records sync_2.1.records.length c_y398_records), (Value.int .i64 sync_2.1.many), (Value.int .i64 sync_2.1.synced)].toArray) (fun ρ436 w437 g hle hi ht => ?_) ?_
     ·
      obtain ⟨-, hst, -⟩ := hle
      have hsn := (Step.nx hi).1
      refine StepOp_plain (op_loadA (cs := [(Value.slice a_y398_records sync_2.1.records.length c_y398_records), (Value.int .i64 sync_2.1.many), (Value.int .i64 sync_2.1.synced)]) (vs := [(Value.slice a_y398_records sync_2.1.records.length c_y398_records), (Value.int .i64 sync_2.1.many), (Value.int .i64 sync_2.1.synced)]) (i := 0) ty52 hsn (ht 13 rfl) rfl rfl rfl ?_)
      exact Goes.same hi rfl
     refine Dw_eq (Value.slice a_b b.length c_b) (fun ρ439 w440 g hle hi ht => ?_) ?_
     ·
      obtain ⟨-, hst, -⟩ := hle
      refine StepOp_plain (op_move (v := (Value.slice a_b b.length c_b)) (ht 1 rfl) ?_)
      exact Goes.same hi rfl
     replace hm := bd hm; obtain ⟨r_4, hv445, hm⟩ := hm
     refine Dw_op (VD O [(some b387, Obj.cells [(Value.slice a_y398_records sync_2.1.records.length c_y398_records), (Value.int .i64 sync_2.1.many), (Value.int .i64 sync_2.1.synced)].toArray 52), (some b384, Obj.cells [(Value.slice a_y395_sectors sync_2.2.1.sectors.length c_y395_sectors), (Value.slice a_y395_pending sync_2.2.1.pending.length c_y395_pending), (Value.int .i64 sync_2.2.1.left), (Value.bool sync_2.2.1.stopped)].toArray 25), (some b220, Obj.cells [(Value.slice a_y231_records sync_1.1.records.length c_y231_records), (Value.int .i64 sync_1.1.many), (Value.int .i64 sync_1.1.synced)].toArray 52), (some b217, Obj.cells [(Value.slice a_y228_sectors sync_1.2.1.sectors.length c_y228_sectors), (Value.slice a_y228_pending sync_1.2.1.pending.length c_y228_pending), (Value.int .i64 sync_1.2.1.left), (Value.bool sync_1.2.1.stopped)].toArray 25)] (vA rXJournal) r_4) (VD.stab _ _) (fun ρ442 w443 g hle hi ht => ?_) ?_
     ·
      obtain ⟨-, hst, -⟩ := hle
      replace f_b := f_b.step hst; replace F46 := F46.step hst; replace f_y398_records := f_y398_records.step hst
      refine StepOp_plain (op_callF (ht 77 rfl) (F46.call hi.ltw (mkA (mkVia (mk_pair (mk_sl f_y398_records) (mk_pair (mk_int r_y398_many) (mk_int r_y398_synced))))) (mkC (mk_sl f_b)) hv445) (by simp only [List.map, Array.toList, (show ev _ (.tmp 78) = _ from (ht 78 rfl)), (show ev _ (.tmp 79) = _ from (ht 79 rfl))] <;> rfl) ?_)
      rintro v446 w447 ⟨hx448, h449⟩
      exact Goes.call hi hx448 h449
     refine Dw_eq (Value.agg [(Value.slice a_y395_sectors sync_2.2.1.sectors.length c_y395_sectors), (Value.slice a_y395_pending sync_2.2.1.pending.length c_y395_pending), (Value.int .i64 sync_2.2.1.left), (Value.bool sync_2.2.1.stopped)].toArray) (fun ρ451 w452 g hle hi ht => ?_) ?_
     ·
      obtain ⟨-, hst, -⟩ := hle
      have hsn := (Step.nx hi).1
      refine StepOp_plain (op_loadA (cs := [(Value.slice a_y395_sectors sync_2.2.1.sectors.length c_y395_sectors), (Value.slice a_y395_pending sync_2.2.1.pending.length c_y395_pending), (Value.int .i64 sync_2.2.1.left), (Value.bool sync_2.2.1.stopped)]) (vs := [(Value.slice a_y395_sectors sync_2.2.1.sectors.length c_y395_sectors), (Value.slice a_y395_pending sync_2.2.1.pending.length c_y395_pending), (Value.int .i64 sync_2.2.1.left), (Value.bool sync_2.2.1.stopped)]) (i := 1) ty25 hsn (ht 14 rfl) rfl rfl rfl ?_)
      exact Goes.same hi rfl
     replace hm := bd hm; obtain ⟨sync_3, hv460, hm⟩ := hm
     refine Dw_op (VD O [(some b387, Obj.cells [(Value.slice a_y398_records sync_2.1.records.length c_y398_records), (Value.int .i64 sync_2.1.many), (Value.int .i64 sync_2.1.synced)].toArray 52), (some b384, Obj.cells [(Value.slice a_y395_sectors sync_2.2.1.sectors.length c_y395_sectors), (Value.slice a_y395_pending sync_2.2.1.pending.length c_y395_pending), (Value.int .i64 sync_2.2.1.left), (Value.bool sync_2.2.1.stopped)].toArray 25), (some b220, Obj.cells [(Value.slice a_y231_records sync_1.1.records.length c_y231_records), (Value.int .i64 sync_1.1.many), (Value.int .i64 sync_1.1.synced)].toArray 52), (some b217, Obj.cells [(Value.slice a_y228_sectors sync_1.2.1.sectors.length c_y228_sectors), (Value.slice a_y228_pending sync_1.2.1.pending.length c_y228_pending), (Value.int .i64 sync_1.2.1.left), (Value.bool sync_1.2.1.stopped)].toArray 25)] (vT3 (vA rXJournal) (vA rXDisk) (vI .i64)) sync_3) (VD.stab _ _) (fun ρ454 w455 g hle hi ht => ?_) ?_
     ·
      obtain ⟨-, hst, -⟩ := hle
      replace f_y395_sectors := f_y395_sectors.step hst; replace f_y395_pending := f_y395_pending.step hst
      have h457 : Vr.vd (vA rXJournal) _ _ _ _ := ht 80 rfl
      obtain ⟨_, q458, ⟨_, _, rfl, ⟨a_y459_records, c_y459_records, rfl, f_y459_records⟩, ⟨_, _, rfl, ⟨rfl, r_y459_many⟩, ⟨rfl, r_y459_synced⟩⟩⟩⟩ := h457
      refine StepOp_plain (op_call Try.call39 (c39_journal_Sync (O := ks (ents g ++ [(some b387, Obj.cells [(Value.slice a_y398_records sync_2.1.records.length c_y398_records), (Value.int .i64 sync_2.1.many), (Value.int .i64 sync_2.1.synced)].toArray 52), (some b384, Obj.cells [(Value.slice a_y395_sectors sync_2.2.1.sectors.length c_y395_sectors), (Value.slice a_y395_pending sync_2.2.1.pending.length c_y395_pending), (Value.int .i64 sync_2.2.1.left), (Value.bool sync_2.2.1.stopped)].toArray 25), (some b220, Obj.cells [(Value.slice a_y231_records sync_1.1.records.length c_y231_records), (Value.int .i64 sync_1.1.many), (Value.int .i64 sync_1.1.synced)].toArray 52), (some b217, Obj.cells [(Value.slice a_y228_sectors sync_1.2.1.sectors.length c_y228_sectors), (Value.slice a_y228_pending sync_1.2.1.pending.length c_y228_pending), (Value.int .i64 sync_1.2.1.left), (Value.bool sync_1.2.1.stopped)].toArray 25)]) O) (l := r_4) (d := sync_2.2.1) hi.ltw f_y459_records r_y459_many r_y459_synced f_y395_sectors f_y395_pending r_y395_left hv460) (by simp only [List.map, Array.toList, (show ev _ (.tmp 80) = _ from q458), (show ev _ (.tmp 81) = _ from (ht 81 rfl))] <;> rfl) ?_)
      rintro v461 w462 ⟨hx463, h464⟩
      exact Goes.call hi hx463 h464
     refine Dw_op (VD O [(some b387, Obj.cells [(Value.slice a_y398_records sync_2.1.records.length c_y398_records), (Value.int .i64 sync_2.1.many), (Value.int .i64 sync_2.1.synced)].toArray 52), (some b384, Obj.cells [(Value.slice a_y395_sectors sync_2.2.1.sectors.length c_y395_sectors), (Value.slice a_y395_pending sync_2.2.1.pending.length c_y395_pending), (Value.int .i64 sync_2.2.1.left), (Value.bool sync_2.2.1.stopped)].toArray 25), (some b220, Obj.cells [(Value.slice a_y231_records sync_1.1.records.length c_y231_records), (Value.int .i64 sync_1.1.many), (Value.int .i64 sync_1.1.synced)].toArray 52), (some b217, Obj.cells [(Value.slice a_y228_sectors sync_1.2.1.sectors.length c_y228_sectors), (Value.slice a_y228_pending sync_1.2.1.pending.length c_y228_pending), (Value.int .i64 sync_1.2.1.left), (Value.bool sync_1.2.1.stopped)].toArray 25)] (vT3 (vA rXJournal) (vA rXDisk) (vI .i64)) sync_3) (VD.stab _ _) (fun ρ466 w467 g hle hi ht => ?_) ?_
     ·
      obtain ⟨-, hst, -⟩ := hle
      have h : Vr.vd (vT3 (vA rXJournal) (vA rXDisk) (vI .i64)) _ _ _ _ := ht 82 rfl
      refine StepOp_plain (op_move rfl (Goes.same hi h))
     refine Dw_op (VD O [(some b387, Obj.cells [(Value.slice a_y398_records sync_2.1.records.length c_y398_records), (Value.int .i64 sync_2.1.many), (Value.int .i64 sync_2.1.synced)].toArray 52), (some b384, Obj.cells [(Value.slice a_y395_sectors sync_2.2.1.sectors.length c_y395_sectors), (Value.slice a_y395_pending sync_2.2.1.pending.length c_y395_pending), (Value.int .i64 sync_2.2.1.left), (Value.bool sync_2.2.1.stopped)].toArray 25), (some b220, Obj.cells [(Value.slice a_y231_records sync_1.1.records.length c_y231_records), (Value.int .i64 sync_1.1.many), (Value.int .i64 sync_1.1.synced)].toArray 52), (some b217, Obj.cells [(Value.slice a_y228_sectors sync_1.2.1.sectors.length c_y228_sectors), (Value.slice a_y228_pending sync_1.2.1.pending.length c_y228_pending), (Value.int .i64 sync_1.2.1.left), (Value.bool sync_1.2.1.stopped)].toArray 25)] (vA rXJournal) sync_3.1) (VD.stab _ _) (fun ρ480 w481 g hle hi ht => ?_) ?_
     ·
      obtain ⟨-, hst, -⟩ := hle
      have h483 : Vr.vd (vT3 (vA rXJournal) (vA rXDisk) (vI .i64)) _ _ _ _ := ht 76 rfl
      obtain ⟨v485, v486, v487, q484, h488, h489, h490⟩ := h483
      obtain ⟨_, rfl, ⟨_, _, rfl, ⟨a_y491_records, c_y491_records, rfl, f_y491_records⟩, ⟨_, _, rfl, ⟨rfl, r_y491_many⟩, ⟨rfl, r_y491_synced⟩⟩⟩⟩ := h488
      obtain ⟨_, rfl, ⟨_, _, rfl, ⟨a_y492_sectors, c_y492_sectors, rfl, f_y492_sectors⟩, ⟨_, _, rfl, ⟨a_y492_pending, c_y492_pending, rfl, f_y492_pending⟩, ⟨_, _, rfl, ⟨rfl, r_y492_left⟩, rfl⟩⟩⟩⟩ := h489
      obtain ⟨rfl, r_y493⟩ := h490
      refine StepOp_plain (op_extract (v := (Value.agg [(Value.slice a_y491_records sync_3.1.records.length c_y491_records), (Value.int .i64 sync_3.1.many), (Value.int .i64 sync_3.1.synced)].toArray)) q484 rfl ?_)
      exact Goes.same hi (show Vr.vd (vA rXJournal) _ _ _ _ from (mkA (mkVia (mk_pair (mk_sl f_y491_records) (mk_pair (mk_int r_y491_many) (mk_int r_y491_synced))))))
     refine Dw_op (VD O [(some b387, Obj.cells [(Value.slice a_y398_records sync_2.1.records.length c_y398_records), (Value.int .i64 sync_2.1.many), (Value.int .i64 sync_2.1.synced)].toArray 52), (some b384, Obj.cells [(Value.slice a_y395_sectors sync_2.2.1.sectors.length c_y395_sectors), (Value.slice a_y395_pending sync_2.2.1.pending.length c_y395_pending), (Value.int .i64 sync_2.2.1.left), (Value.bool sync_2.2.1.stopped)].toArray 25), (some b220, Obj.cells [(Value.slice a_y231_records sync_1.1.records.length c_y231_records), (Value.int .i64 sync_1.1.many), (Value.int .i64 sync_1.1.synced)].toArray 52), (some b217, Obj.cells [(Value.slice a_y228_sectors sync_1.2.1.sectors.length c_y228_sectors), (Value.slice a_y228_pending sync_1.2.1.pending.length c_y228_pending), (Value.int .i64 sync_1.2.1.left), (Value.bool sync_1.2.1.stopped)].toArray 25)] (vA rXDisk) sync_3.2.1) (VD.stab _ _) (fun ρ494 w495 g hle hi ht => ?_) ?_
     ·
      obtain ⟨-, hst, -⟩ := hle
      have h497 : Vr.vd (vT3 (vA rXJournal) (vA rXDisk) (vI .i64)) _ _ _ _ := ht 76 rfl
      obtain ⟨v499, v500, v501, q498, h502, h503, h504⟩ := h497
      obtain ⟨_, rfl, ⟨_, _, rfl, ⟨a_y505_records, c_y505_records, rfl, f_y505_records⟩, ⟨_, _, rfl, ⟨rfl, r_y505_many⟩, ⟨rfl, r_y505_synced⟩⟩⟩⟩ := h502
      obtain ⟨_, rfl, ⟨_, _, rfl, ⟨a_y506_sectors, c_y506_sectors, rfl, f_y506_sectors⟩, ⟨_, _, rfl, ⟨a_y506_pending, c_y506_pending, rfl, f_y506_pending⟩, ⟨_, _, rfl, ⟨rfl, r_y506_left⟩, rfl⟩⟩⟩⟩ := h503
      obtain ⟨rfl, r_y507⟩ := h504
      refine StepOp_plain (op_extract (v := (Value.agg [(Value.slice a_y506_sectors sync_3.2.1.sectors.length c_y506_sectors), (Value.slice a_y506_pending sync_3.2.1.pending.length c_y506_pending), (Value.int .i64 sync_3.2.1.left), (Value.bool sync_3.2.1.stopped)].toArray)) q498 rfl ?_)
      exact Goes.same hi (show Vr.vd (vA rXDisk) _ _ _ _ from (mkA (mkVia (mk_pair (mk_sl f_y506_sectors) (mk_pair (mk_sl f_y506_pending) (mk_pair (mk_int r_y506_left) mkBool))))))
     refine Dw_op (VD O [(some b387, Obj.cells [(Value.slice a_y398_records sync_2.1.records.length c_y398_records), (Value.int .i64 sync_2.1.many), (Value.int .i64 sync_2.1.synced)].toArray 52), (some b384, Obj.cells [(Value.slice a_y395_sectors sync_2.2.1.sectors.length c_y395_sectors), (Value.slice a_y395_pending sync_2.2.1.pending.length c_y395_pending), (Value.int .i64 sync_2.2.1.left), (Value.bool sync_2.2.1.stopped)].toArray 25), (some b220, Obj.cells [(Value.slice a_y231_records sync_1.1.records.length c_y231_records), (Value.int .i64 sync_1.1.many), (Value.int .i64 sync_1.1.synced)].toArray 52), (some b217, Obj.cells [(Value.slice a_y228_sectors sync_1.2.1.sectors.length c_y228_sectors), (Value.slice a_y228_pending sync_1.2.1.pending.length c_y228_pending), (Value.int .i64 sync_1.2.1.left), (Value.bool sync_1.2.1.stopped)].toArray 25)] (vI .i64) sync_3.2.2) (VD.stab _ _) (fun ρ508 w509 g hle hi ht => ?_) ?_
     ·
      obtain ⟨-, hst, -⟩ := hle
      have h511 : Vr.vd (vT3 (vA rXJournal) (vA rXDisk) (vI .i64)) _ _ _ _ := ht 76 rfl
      obtain ⟨v513, v514, v515, q512, h516, h517, h518⟩ := h511
      obtain ⟨_, rfl, ⟨_, _, rfl, ⟨a_y519_records, c_y519_records, rfl, f_y519_records⟩, ⟨_, _, rfl, ⟨rfl, r_y519_many⟩, ⟨rfl, r_y519_synced⟩⟩⟩⟩ := h516
      obtain ⟨_, rfl, ⟨_, _, rfl, ⟨a_y520_sectors, c_y520_sectors, rfl, f_y520_sectors⟩, ⟨_, _, rfl, ⟨a_y520_pending, c_y520_pending, rfl, f_y520_pending⟩, ⟨_, _, rfl, ⟨rfl, r_y520_left⟩, rfl⟩⟩⟩⟩ := h517
      obtain ⟨rfl, r_y521⟩ := h518
      refine StepOp_plain (op_extract (v := (Value.int .i64 sync_3.2.2)) q512 rfl ?_)
      exact Goes.same hi (show Vr.vd (vI .i64) _ _ _ _ from ⟨rfl, r_y521⟩)
     refine Dw_op (VN 16 (Obj.cells [(Value.slice none 0 0), (Value.int .i64 0), (Value.int .i64 0)].toArray 52)) (VN.stab _ _) (fun ρ522 w523 g hle hi ht => ?_) ?_
     ·
      obtain ⟨-, hst, -⟩ := hle
      refine StepOp_plain (op_alloc ty52 hi ?_)
      intro b525 w526 hx529 p527 hs528; exact Goes.new hi p527 hs528 hx529
     refine Dw_op (VN 17 (Obj.cells [(Value.slice none 0 0), (Value.slice none 0 0), (Value.int .i64 0), (Value.bool false)].toArray 25)) (VN.stab _ _) (fun ρ530 w531 g hle hi ht => ?_) ?_
     ·
      obtain ⟨-, hst, -⟩ := hle
      refine StepOp_plain (op_alloc ty25 hi ?_)
      intro b533 w534 hx537 p535 hs536; exact Goes.new hi p535 hs536 hx537
     refine Dw_nil fun w542 g543 hl544 hi545 => ?_
     obtain ⟨-, hst546, -⟩ := hl544
     rintro _ ⟨b549, rfl, h550⟩
     rintro _ ⟨b552, rfl, h553⟩
     rintro v555 h556
     replace h556 : Vr.vd (vI .i64) _ _ _ _ := h556
     obtain ⟨rfl, r_y557⟩ := h556
     rintro v558 h559
     replace h559 : Vr.vd (vA rXDisk) _ _ _ _ := h559
     obtain ⟨_, rfl, ⟨_, _, rfl, ⟨a_y560_sectors, c_y560_sectors, rfl, f_y560_sectors⟩, ⟨_, _, rfl, ⟨a_y560_pending, c_y560_pending, rfl, f_y560_pending⟩, ⟨_, _, rfl, ⟨rfl, r_y560_left⟩, rfl⟩⟩⟩⟩ := h559
     rintro v561 h562
     replace h562 : Vr.vd (vA rXJournal) _ _ _ _ := h562
     obtain ⟨_, rfl, ⟨_, _, rfl, ⟨a_y563_records, c_y563_records, rfl, f_y563_records⟩, ⟨_, _, rfl, ⟨rfl, r_y563_many⟩, ⟨rfl, r_y563_synced⟩⟩⟩⟩ := h562
     rintro v564 h565
     replace h565 : Vr.vd (vT3 (vA rXJournal) (vA rXDisk) (vI .i64)) _ _ _ _ := h565
     obtain ⟨v566, v567, v568, rfl, h569, h570, h571⟩ := h565
     obtain ⟨_, rfl, ⟨_, _, rfl, ⟨a_y572_records, c_y572_records, rfl, f_y572_records⟩, ⟨_, _, rfl, ⟨rfl, r_y572_many⟩, ⟨rfl, r_y572_synced⟩⟩⟩⟩ := h569
     obtain ⟨_, rfl, ⟨_, _, rfl, ⟨a_y573_sectors, c_y573_sectors, rfl, f_y573_sectors⟩, ⟨_, _, rfl, ⟨a_y573_pending, c_y573_pending, rfl, f_y573_pending⟩, ⟨_, _, rfl, ⟨rfl, r_y573_left⟩, rfl⟩⟩⟩⟩ := h570
     obtain ⟨rfl, r_y574⟩ := h571
     rintro v575 h576
     replace h576 : Vr.vd (vT3 (vA rXJournal) (vA rXDisk) (vI .i64)) _ _ _ _ := h576
     obtain ⟨v577, v578, v579, rfl, h580, h581, h582⟩ := h576
     obtain ⟨_, rfl, ⟨_, _, rfl, ⟨a_y583_records, c_y583_records, rfl, f_y583_records⟩, ⟨_, _, rfl, ⟨rfl, r_y583_many⟩, ⟨rfl, r_y583_synced⟩⟩⟩⟩ := h580
     obtain ⟨_, rfl, ⟨_, _, rfl, ⟨a_y584_sectors, c_y584_sectors, rfl, f_y584_sectors⟩, ⟨_, _, rfl, ⟨a_y584_pending, c_y584_pending, rfl, f_y584_pending⟩, ⟨_, _, rfl, ⟨rfl, r_y584_left⟩, rfl⟩⟩⟩⟩ := h581
     obtain ⟨rfl, r_y585⟩ := h582
     rintro _ rfl
     rintro v586 h587
     replace h587 : Vr.vd (vA rXJournal) _ _ _ _ := h587
     obtain ⟨_, rfl, ⟨_, _, rfl, ⟨a_y588_records, c_y588_records, rfl, f_y588_records⟩, ⟨_, _, rfl, ⟨rfl, r_y588_many⟩, ⟨rfl, r_y588_synced⟩⟩⟩⟩ := h587
     rintro _ rfl
     rintro _ rfl
     rintro _ rfl
     obtain ⟨hs548, p547⟩ := Step.nx2 hi545 h553 h550 (by decide)
     have p589 : Step (ks [(some b387, Obj.cells [(Value.slice a_y398_records sync_2.1.records.length c_y398_records), (Value.int .i64 sync_2.1.many), (Value.int .i64 sync_2.1.synced)].toArray 52), (some b384, Obj.cells [(Value.slice a_y395_sectors sync_2.2.1.sectors.length c_y395_sectors), (Value.slice a_y395_pending sync_2.2.1.pending.length c_y395_pending), (Value.int .i64 sync_2.2.1.left), (Value.bool sync_2.2.1.stopped)].toArray 25), (some b220, Obj.cells [(Value.slice a_y231_records sync_1.1.records.length c_y231_records), (Value.int .i64 sync_1.1.many), (Value.int .i64 sync_1.1.synced)].toArray 52), (some b217, Obj.cells [(Value.slice a_y228_sectors sync_1.2.1.sectors.length c_y228_sectors), (Value.slice a_y228_pending sync_1.2.1.pending.length c_y228_pending), (Value.int .i64 sync_1.2.1.left), (Value.bool sync_1.2.1.stopped)].toArray 25)] O) w428 (ks [(some b552, Obj.cells [(Value.slice none 0 0), (Value.int .i64 0), (Value.int .i64 0)].toArray 52), (some b549, Obj.cells [(Value.slice none 0 0), (Value.slice none 0 0), (Value.int .i64 0), (Value.bool false)].toArray 25), (some b387, Obj.cells [(Value.slice a_y398_records sync_2.1.records.length c_y398_records), (Value.int .i64 sync_2.1.many), (Value.int .i64 sync_2.1.synced)].toArray 52), (some b384, Obj.cells [(Value.slice a_y395_sectors sync_2.2.1.sectors.length c_y395_sectors), (Value.slice a_y395_pending sync_2.2.1.pending.length c_y395_pending), (Value.int .i64 sync_2.2.1.left), (Value.bool sync_2.2.1.stopped)].toArray 25), (some b220, Obj.cells [(Value.slice a_y231_records sync_1.1.records.length c_y231_records), (Value.int .i64 sync_1.1.many), (Value.int .i64 sync_1.1.synced)].toArray 52), (some b217, Obj.cells [(Value.slice a_y228_sectors sync_1.2.1.sectors.length c_y228_sectors), (Value.slice a_y228_pending sync_1.2.1.pending.length c_y228_pending), (Value.int .i64 sync_1.2.1.left), (Value.bool sync_1.2.1.stopped)].toArray 25)] O) w542 := hst546.trans p547
     replace f_y560_sectors := f_y560_sectors.step p547; replace f_y560_pending := f_y560_pending.step p547; replace f_y563_records := f_y563_records.step p547; replace f_y572_records := f_y572_records.step p547; replace f_y573_sectors := f_y573_sectors.step p547; replace f_y573_pending := f_y573_pending.step p547; replace f_y583_records := f_y583_records.step p547; replace f_y584_sectors := f_y584_sectors.step p547; replace f_y584_pending := f_y584_pending.step p547; replace f_y588_records := f_y588_records.step p547; replace f_b := f_b.step p589; replace F46 := F46.step p589; replace f_y228_sectors := f_y228_sectors.step p589; replace f_y228_pending := f_y228_pending.step p589; replace f_y231_records := f_y231_records.step p589; replace f_y395_sectors := f_y395_sectors.step p589; replace f_y395_pending := f_y395_pending.step p589; replace f_y398_records := f_y398_records.step p589; clear p589 hs431
     refine Rg_op_ (op_store (cs := [(Value.slice none 0 0), (Value.int .i64 0), (Value.int .i64 0)]) (vs := [(Value.slice a_y563_records sync_3.1.records.length c_y563_records), (Value.int .i64 sync_3.1.many), (Value.int .i64 sync_3.1.synced)]) (cs' := [(Value.slice a_y563_records sync_3.1.records.length c_y563_records), (Value.int .i64 sync_3.1.many), (Value.int .i64 sync_3.1.synced)]) (bs' := [(some b552, Obj.cells [(Value.slice a_y563_records sync_3.1.records.length c_y563_records), (Value.int .i64 sync_3.1.many), (Value.int .i64 sync_3.1.synced)].toArray 52), (some b549, Obj.cells [(Value.slice none 0 0), (Value.slice none 0 0), (Value.int .i64 0), (Value.bool false)].toArray 25), (some b387, Obj.cells [(Value.slice a_y398_records sync_2.1.records.length c_y398_records), (Value.int .i64 sync_2.1.many), (Value.int .i64 sync_2.1.synced)].toArray 52), (some b384, Obj.cells [(Value.slice a_y395_sectors sync_2.2.1.sectors.length c_y395_sectors), (Value.slice a_y395_pending sync_2.2.1.pending.length c_y395_pending), (Value.int .i64 sync_2.2.1.left), (Value.bool sync_2.2.1.stopped)].toArray 25), (some b220, Obj.cells [(Value.slice a_y231_records sync_1.1.records.length c_y231_records), (Value.int .i64 sync_1.1.many), (Value.int .i64 sync_1.1.synced)].toArray 52), (some b217, Obj.cells [(Value.slice a_y228_sectors sync_1.2.1.sectors.length c_y228_sectors), (Value.slice a_y228_pending sync_1.2.1.pending.length c_y228_pending), (Value.int .i64 sync_1.2.1.left), (Value.bool sync_1.2.1.stopped)].toArray 25)]) (i := 0) ty52 hs548 rfl rfl rfl rfl rfl (le_lit rfl) rfl rfl rfl ?_)
     intro w590 p591 hs592
     replace f_b := f_b.step p591; replace F46 := F46.step p591; replace f_y228_sectors := f_y228_sectors.step p591; replace f_y228_pending := f_y228_pending.step p591; replace f_y231_records := f_y231_records.step p591; replace f_y395_sectors := f_y395_sectors.step p591; replace f_y395_pending := f_y395_pending.step p591; replace f_y398_records := f_y398_records.step p591; replace f_y560_sectors := f_y560_sectors.step p591; replace f_y560_pending := f_y560_pending.step p591; replace f_y563_records := f_y563_records.step p591; replace f_y572_records := f_y572_records.step p591; replace f_y573_sectors := f_y573_sectors.step p591; replace f_y573_pending := f_y573_pending.step p591; replace f_y583_records := f_y583_records.step p591; replace f_y584_sectors := f_y584_sectors.step p591; replace f_y584_pending := f_y584_pending.step p591; replace f_y588_records := f_y588_records.step p591; clear p591 hs548
     refine Rg_op_ (op_store (cs := [(Value.slice none 0 0), (Value.slice none 0 0), (Value.int .i64 0), (Value.bool false)]) (vs := [(Value.slice a_y560_sectors sync_3.2.1.sectors.length c_y560_sectors), (Value.slice a_y560_pending sync_3.2.1.pending.length c_y560_pending), (Value.int .i64 sync_3.2.1.left), (Value.bool sync_3.2.1.stopped)]) (cs' := [(Value.slice a_y560_sectors sync_3.2.1.sectors.length c_y560_sectors), (Value.slice a_y560_pending sync_3.2.1.pending.length c_y560_pending), (Value.int .i64 sync_3.2.1.left), (Value.bool sync_3.2.1.stopped)]) (bs' := [(some b552, Obj.cells [(Value.slice a_y563_records sync_3.1.records.length c_y563_records), (Value.int .i64 sync_3.1.many), (Value.int .i64 sync_3.1.synced)].toArray 52), (some b549, Obj.cells [(Value.slice a_y560_sectors sync_3.2.1.sectors.length c_y560_sectors), (Value.slice a_y560_pending sync_3.2.1.pending.length c_y560_pending), (Value.int .i64 sync_3.2.1.left), (Value.bool sync_3.2.1.stopped)].toArray 25), (some b387, Obj.cells [(Value.slice a_y398_records sync_2.1.records.length c_y398_records), (Value.int .i64 sync_2.1.many), (Value.int .i64 sync_2.1.synced)].toArray 52), (some b384, Obj.cells [(Value.slice a_y395_sectors sync_2.2.1.sectors.length c_y395_sectors), (Value.slice a_y395_pending sync_2.2.1.pending.length c_y395_pending), (Value.int .i64 sync_2.2.1.left), (Value.bool sync_2.2.1.stopped)].toArray 25), (some b220, Obj.cells [(Value.slice a_y231_records sync_1.1.records.length c_y231_records), (Value.int .i64 sync_1.1.many), (Value.int .i64 sync_1.1.synced)].toArray 52), (some b217, Obj.cells [(Value.slice a_y228_sectors sync_1.2.1.sectors.length c_y228_sectors), (Value.slice a_y228_pending sync_1.2.1.pending.length c_y228_pending), (Value.int .i64 sync_1.2.1.left), (Value.bool sync_1.2.1.stopped)].toArray 25)]) (i := 1) ty25 hs592 rfl rfl rfl rfl rfl (le_lit rfl) rfl rfl rfl ?_)
     intro w593 p594 hs595
     replace f_b := f_b.step p594; replace F46 := F46.step p594; replace f_y228_sectors := f_y228_sectors.step p594; replace f_y228_pending := f_y228_pending.step p594; replace f_y231_records := f_y231_records.step p594; replace f_y395_sectors := f_y395_sectors.step p594; replace f_y395_pending := f_y395_pending.step p594; replace f_y398_records := f_y398_records.step p594; replace f_y560_sectors := f_y560_sectors.step p594; replace f_y560_pending := f_y560_pending.step p594; replace f_y563_records := f_y563_records.step p594; replace f_y572_records := f_y572_records.step p594; replace f_y573_sectors := f_y573_sectors.step p594; replace f_y573_pending := f_y573_pending.step p594; replace f_y583_records := f_y583_records.step p594; replace f_y584_sectors := f_y584_sectors.step p594; replace f_y584_pending := f_y584_pending.step p594; replace f_y588_records := f_y588_records.step p594; clear p594 hs592
     refine Rg_op rfl (op_assign (v := (Value.int .i64 sync_3.2.2)) rfl ?_)
     refine Rg_nil ?_
     refine Wp_seq ?_
     obtain ⟨hs596, p597⟩ := hs595.sub (bs' := [(some b552, Obj.cells [(Value.slice a_y563_records sync_3.1.records.length c_y563_records), (Value.int .i64 sync_3.1.many), (Value.int .i64 sync_3.1.synced)].toArray 52), (some b549, Obj.cells [(Value.slice a_y560_sectors sync_3.2.1.sectors.length c_y560_sectors), (Value.slice a_y560_pending sync_3.2.1.pending.length c_y560_pending), (Value.int .i64 sync_3.2.1.left), (Value.bool sync_3.2.1.stopped)].toArray 25), (some b220, Obj.cells [(Value.slice a_y231_records sync_1.1.records.length c_y231_records), (Value.int .i64 sync_1.1.many), (Value.int .i64 sync_1.1.synced)].toArray 52), (some b217, Obj.cells [(Value.slice a_y228_sectors sync_1.2.1.sectors.length c_y228_sectors), (Value.slice a_y228_pending sync_1.2.1.pending.length c_y228_pending), (Value.int .i64 sync_1.2.1.left), (Value.bool sync_1.2.1.stopped)].toArray 25)]) (.cons_cons _ (.cons_cons _ (.cons _ (.cons _ (.cons_cons _ (.cons_cons _ List.Sublist.slnil))))))
     clear f_b F46 f_y395_sectors f_y395_pending f_y398_records f_y572_records f_y573_sectors f_y573_pending f_y583_records f_y584_sectors f_y584_pending f_y588_records
     replace f_y228_sectors := f_y228_sectors.step p597; replace f_y228_pending := f_y228_pending.step p597; replace f_y231_records := f_y231_records.step p597; replace f_y560_sectors := f_y560_sectors.step p597; replace f_y560_pending := f_y560_pending.step p597; replace f_y563_records := f_y563_records.step p597; clear p597 hs595
     refine Wp_region ?_
     refine Rg_op rfl (op_loadA (cs := [(Value.slice a_y563_records sync_3.1.records.length c_y563_records), (Value.int .i64 sync_3.1.many), (Value.int .i64 sync_3.1.synced)]) (vs := [(Value.slice a_y563_records sync_3.1.records.length c_y563_records), (Value.int .i64 sync_3.1.many), (Value.int .i64 sync_3.1.synced)]) (i := 0) ty52 hs596 rfl rfl rfl rfl ?_)
     refine Rg_op rfl (op_loadA (cs := [(Value.slice a_y560_sectors sync_3.2.1.sectors.length c_y560_sectors), (Value.slice a_y560_pending sync_3.2.1.pending.length c_y560_pending), (Value.int .i64 sync_3.2.1.left), (Value.bool sync_3.2.1.stopped)]) (vs := [(Value.slice a_y560_sectors sync_3.2.1.sectors.length c_y560_sectors), (Value.slice a_y560_pending sync_3.2.1.pending.length c_y560_pending), (Value.int .i64 sync_3.2.1.left), (Value.bool sync_3.2.1.stopped)]) (i := 1) ty25 hs596 rfl rfl rfl rfl ?_)
     replace hm := bd hm; obtain ⟨sync_4, hv598, hm⟩ := hm
     refine Rg_op rfl (op_call Try.call39 (c39_journal_Sync (l := sync_3.1) (d := sync_3.2.1) hs596.ltw f_y563_records r_y563_many r_y563_synced f_y560_sectors f_y560_pending r_y560_left hv598) rfl ?_)
     rintro v599 w600 ⟨hx601, h602⟩
     have hs603 := hs596.call hx601
     have p604 := Step.ext (O := ks [(some b552, Obj.cells [(Value.slice a_y563_records sync_3.1.records.length c_y563_records), (Value.int .i64 sync_3.1.many), (Value.int .i64 sync_3.1.synced)].toArray 52), (some b549, Obj.cells [(Value.slice a_y560_sectors sync_3.2.1.sectors.length c_y560_sectors), (Value.slice a_y560_pending sync_3.2.1.pending.length c_y560_pending), (Value.int .i64 sync_3.2.1.left), (Value.bool sync_3.2.1.stopped)].toArray 25), (some b220, Obj.cells [(Value.slice a_y231_records sync_1.1.records.length c_y231_records), (Value.int .i64 sync_1.1.many), (Value.int .i64 sync_1.1.synced)].toArray 52), (some b217, Obj.cells [(Value.slice a_y228_sectors sync_1.2.1.sectors.length c_y228_sectors), (Value.slice a_y228_pending sync_1.2.1.pending.length c_y228_pending), (Value.int .i64 sync_1.2.1.left), (Value.bool sync_1.2.1.stopped)].toArray 25)] O) hx601
     clear hx601
     replace f_y228_sectors := f_y228_sectors.step p604; replace f_y228_pending := f_y228_pending.step p604; replace f_y231_records := f_y231_records.step p604; replace f_y560_sectors := f_y560_sectors.step p604; replace f_y560_pending := f_y560_pending.step p604; replace f_y563_records := f_y563_records.step p604; clear p604 hs596
     obtain ⟨v605, v606, v607, rfl, h608, h609, h610⟩ := h602
     obtain ⟨_, rfl, ⟨_, _, rfl, ⟨a_y611_records, c_y611_records, rfl, f_y611_records⟩, ⟨_, _, rfl, ⟨rfl, r_y611_many⟩, ⟨rfl, r_y611_synced⟩⟩⟩⟩ := h608
     obtain ⟨_, rfl, ⟨_, _, rfl, ⟨a_y612_sectors, c_y612_sectors, rfl, f_y612_sectors⟩, ⟨_, _, rfl, ⟨a_y612_pending, c_y612_pending, rfl, f_y612_pending⟩, ⟨_, _, rfl, ⟨rfl, r_y612_left⟩, rfl⟩⟩⟩⟩ := h609
     obtain ⟨rfl, r_y613⟩ := h610
     refine Rg_op rfl (op_move (v := (Value.tuple [(Value.agg [(Value.slice a_y611_records sync_4.1.records.length c_y611_records), (Value.int .i64 sync_4.1.many), (Value.int .i64 sync_4.1.synced)].toArray), (Value.agg [(Value.slice a_y612_sectors sync_4.2.1.sectors.length c_y612_sectors), (Value.slice a_y612_pending sync_4.2.1.pending.length c_y612_pending), (Value.int .i64 sync_4.2.1.left), (Value.bool sync_4.2.1.stopped)].toArray), (Value.int .i64 sync_4.2.2)].toArray)) rfl ?_)
     refine Rg_op rfl (op_extract (v := (Value.agg [(Value.slice a_y611_records sync_4.1.records.length c_y611_records), (Value.int .i64 sync_4.1.many), (Value.int .i64 sync_4.1.synced)].toArray)) rfl rfl ?_)
     refine Rg_op rfl (op_extract (v := (Value.agg [(Value.slice a_y612_sectors sync_4.2.1.sectors.length c_y612_sectors), (Value.slice a_y612_pending sync_4.2.1.pending.length c_y612_pending), (Value.int .i64 sync_4.2.1.left), (Value.bool sync_4.2.1.stopped)].toArray)) rfl rfl ?_)
     refine Rg_op rfl (op_extract (v := (Value.int .i64 sync_4.2.2)) rfl rfl ?_)
     refine Rg_op rfl (op_alloc ty52 hs603 ?_)
     intro b614 w615 _ p616 hs617
     replace f_y228_sectors := f_y228_sectors.step p616; replace f_y228_pending := f_y228_pending.step p616; replace f_y231_records := f_y231_records.step p616; replace f_y560_sectors := f_y560_sectors.step p616; replace f_y560_pending := f_y560_pending.step p616; replace f_y563_records := f_y563_records.step p616; replace f_y611_records := f_y611_records.step p616; replace f_y612_sectors := f_y612_sectors.step p616; replace f_y612_pending := f_y612_pending.step p616; clear p616 hs603
     refine Rg_op rfl (op_alloc ty25 hs617 ?_)
     intro b619 w620 _ p621 hs622
     replace f_y228_sectors := f_y228_sectors.step p621; replace f_y228_pending := f_y228_pending.step p621; replace f_y231_records := f_y231_records.step p621; replace f_y560_sectors := f_y560_sectors.step p621; replace f_y560_pending := f_y560_pending.step p621; replace f_y563_records := f_y563_records.step p621; replace f_y611_records := f_y611_records.step p621; replace f_y612_sectors := f_y612_sectors.step p621; replace f_y612_pending := f_y612_pending.step p621; clear p621 hs617
     refine Rg_op_ (op_store (cs := [(Value.slice none 0 0), (Value.int .i64 0), (Value.int .i64 0)]) (vs := [(Value.slice a_y611_records sync_4.1.records.length c_y611_records), (Value.int .i64 sync_4.1.many), (Value.int .i64 sync_4.1.synced)]) (cs' := [(Value.slice a_y611_records sync_4.1.records.length c_y611_records), (Value.int .i64 sync_4.1.many), (Value.int .i64 sync_4.1.synced)]) (bs' := [(some b619, Obj.cells [(Value.slice none 0 0), (Value.slice none 0 0), (Value.int .i64 0), (Value.bool false)].toArray 25), (some b614, Obj.cells [(Value.slice a_y611_records sync_4.1.records.length c_y611_records), (Value.int .i64 sync_4.1.many), (Value.int .i64 sync_4.1.synced)].toArray 52), (some b552, Obj.cells [(Value.slice a_y563_records sync_3.1.records.length c_y563_records), (Value.int .i64 sync_3.1.many), (Value.int .i64 sync_3.1.synced)].toArray 52), (some b549, Obj.cells [(Value.slice a_y560_sectors sync_3.2.1.sectors.length c_y560_sectors), (Value.slice a_y560_pending sync_3.2.1.pending.length c_y560_pending), (Value.int .i64 sync_3.2.1.left), (Value.bool sync_3.2.1.stopped)].toArray 25), (some b220, Obj.cells [(Value.slice a_y231_records sync_1.1.records.length c_y231_records), (Value.int .i64 sync_1.1.many), (Value.int .i64 sync_1.1.synced)].toArray 52), (some b217, Obj.cells [(Value.slice a_y228_sectors sync_1.2.1.sectors.length c_y228_sectors), (Value.slice a_y228_pending sync_1.2.1.pending.length c_y228_pending), (Value.int .i64 sync_1.2.1.left), (Value.bool sync_1.2.1.stopped)].toArray 25)]) (i := 1) ty52 hs622 rfl rfl rfl rfl rfl (le_lit rfl) rfl rfl rfl ?_)
     intro w624 p625 hs626
     replace f_y228_sectors := f_y228_sectors.step p625; replace f_y228_pending := f_y228_pending.step p625; replace f_y231_records := f_y231_records.step p625; replace f_y560_sectors := f_y560_sectors.step p625; replace f_y560_pending := f_y560_pending.step p625; replace f_y563_records := f_y563_records.step p625; replace f_y611_records := f_y611_records.step p625; replace f_y612_sectors := f_y612_sectors.step p625; replace f_y612_pending := f_y612_pending.step p625; clear p625 hs622
     refine Rg_op_ (op_store (cs := [(Value.slice none 0 0), (Value.slice none 0 0), (Value.int .i64 0), (Value.bool false)]) (vs := [(Value.slice a_y612_sectors sync_4.2.1.sectors.length c_y612_sectors), (Value.slice a_y612_pending sync_4.2.1.pending.length c_y612_pending), (Value.int .i64 sync_4.2.1.left), (Value.bool sync_4.2.1.stopped)]) (cs' := [(Value.slice a_y612_sectors sync_4.2.1.sectors.length c_y612_sectors), (Value.slice a_y612_pending sync_4.2.1.pending.length c_y612_pending), (Value.int .i64 sync_4.2.1.left), (Value.bool sync_4.2.1.stopped)]) (bs' := [(some b619, Obj.cells [(Value.slice a_y612_sectors sync_4.2.1.sectors.length c_y612_sectors), (Value.slice a_y612_pending sync_4.2.1.pending.length c_y612_pending), (Value.int .i64 sync_4.2.1.left), (Value.bool sync_4.2.1.stopped)].toArray 25), (some b614, Obj.cells [(Value.slice a_y611_records sync_4.1.records.length c_y611_records), (Value.int .i64 sync_4.1.many), (Value.int .i64 sync_4.1.synced)].toArray 52), (some b552, Obj.cells [(Value.slice a_y563_records sync_3.1.records.length c_y563_records), (Value.int .i64 sync_3.1.many), (Value.int .i64 sync_3.1.synced)].toArray 52), (some b549, Obj.cells [(Value.slice a_y560_sectors sync_3.2.1.sectors.length c_y560_sectors), (Value.slice a_y560_pending sync_3.2.1.pending.length c_y560_pending), (Value.int .i64 sync_3.2.1.left), (Value.bool sync_3.2.1.stopped)].toArray 25), (some b220, Obj.cells [(Value.slice a_y231_records sync_1.1.records.length c_y231_records), (Value.int .i64 sync_1.1.many), (Value.int .i64 sync_1.1.synced)].toArray 52), (some b217, Obj.cells [(Value.slice a_y228_sectors sync_1.2.1.sectors.length c_y228_sectors), (Value.slice a_y228_pending sync_1.2.1.pending.length c_y228_pending), (Value.int .i64 sync_1.2.1.left), (Value.bool sync_1.2.1.stopped)].toArray 25)]) (i := 0) ty25 hs626 rfl rfl rfl rfl rfl (le_lit rfl) rfl rfl rfl ?_)
     intro w627 p628 hs629
     replace f_y228_sectors := f_y228_sectors.step p628; replace f_y228_pending := f_y228_pending.step p628; replace f_y231_records := f_y231_records.step p628; replace f_y560_sectors := f_y560_sectors.step p628; replace f_y560_pending := f_y560_pending.step p628; replace f_y563_records := f_y563_records.step p628; replace f_y611_records := f_y611_records.step p628; replace f_y612_sectors := f_y612_sectors.step p628; replace f_y612_pending := f_y612_pending.step p628; clear p628 hs626
     refine Rg_op rfl (op_assign (v := (Value.int .i64 sync_4.2.2)) rfl ?_)
     refine Rg_nil ?_
     refine Wp_seq ?_
     refine Wp_reset [] [(10, (Value.pointer (some ⟨b220, 0, none⟩))), (11, (Value.pointer (some ⟨b217, 0, none⟩))), (12, (Value.int .i64 sync_1.2.2)), (15, (Value.int .i64 sync_2.2.2)), (16, (Value.pointer (some ⟨b552, 0, none⟩))), (17, (Value.pointer (some ⟨b549, 0, none⟩))), (18, (Value.int .i64 sync_3.2.2)), (19, (Value.pointer (some ⟨b614, 0, none⟩))), (20, (Value.pointer (some ⟨b619, 0, none⟩))), (21, (Value.int .i64 sync_4.2.2))] rfl ⟨rfl, rfl, rfl, rfl, rfl, rfl, rfl, rfl, rfl, rfl, trivial⟩ fun ξ630 => ?_
     refine Wp_region ?_
     refine Rg_op rfl (op_loadA (cs := [(Value.slice a_y228_sectors sync_1.2.1.sectors.length c_y228_sectors), (Value.slice a_y228_pending sync_1.2.1.pending.length c_y228_pending), (Value.int .i64 sync_1.2.1.left), (Value.bool sync_1.2.1.stopped)]) (vs := [(Value.slice a_y228_sectors sync_1.2.1.sectors.length c_y228_sectors), (Value.slice a_y228_pending sync_1.2.1.pending.length c_y228_pending), (Value.int .i64 sync_1.2.1.left), (Value.bool sync_1.2.1.stopped)]) (i := 5) ty25 hs629 rfl rfl rfl rfl ?_)
     replace hm := bd hm; obtain ⟨open_2, hv631, hm⟩ := hm
     refine Rg_op rfl (op_call Try.call38 (c38_journal_Open (d := sync_1.2.1) hs629.ltw f_y228_sectors f_y228_pending r_y228_left hv631) rfl ?_)
     rintro v632 w633 ⟨hx634, h635⟩
     have hs636 := hs629.call hx634
     have p637 := Step.ext (O := ks [(some b619, Obj.cells [(Value.slice a_y612_sectors sync_4.2.1.sectors.length c_y612_sectors), (Value.slice a_y612_pending sync_4.2.1.pending.length c_y612_pending), (Value.int .i64 sync_4.2.1.left), (Value.bool sync_4.2.1.stopped)].toArray 25), (some b614, Obj.cells [(Value.slice a_y611_records sync_4.1.records.length c_y611_records), (Value.int .i64 sync_4.1.many), (Value.int .i64 sync_4.1.synced)].toArray 52), (some b552, Obj.cells [(Value.slice a_y563_records sync_3.1.records.length c_y563_records), (Value.int .i64 sync_3.1.many), (Value.int .i64 sync_3.1.synced)].toArray 52), (some b549, Obj.cells [(Value.slice a_y560_sectors sync_3.2.1.sectors.length c_y560_sectors), (Value.slice a_y560_pending sync_3.2.1.pending.length c_y560_pending), (Value.int .i64 sync_3.2.1.left), (Value.bool sync_3.2.1.stopped)].toArray 25), (some b220, Obj.cells [(Value.slice a_y231_records sync_1.1.records.length c_y231_records), (Value.int .i64 sync_1.1.many), (Value.int .i64 sync_1.1.synced)].toArray 52), (some b217, Obj.cells [(Value.slice a_y228_sectors sync_1.2.1.sectors.length c_y228_sectors), (Value.slice a_y228_pending sync_1.2.1.pending.length c_y228_pending), (Value.int .i64 sync_1.2.1.left), (Value.bool sync_1.2.1.stopped)].toArray 25)] O) hx634
     clear hx634
     replace f_y228_sectors := f_y228_sectors.step p637; replace f_y228_pending := f_y228_pending.step p637; replace f_y231_records := f_y231_records.step p637; replace f_y560_sectors := f_y560_sectors.step p637; replace f_y560_pending := f_y560_pending.step p637; replace f_y563_records := f_y563_records.step p637; replace f_y611_records := f_y611_records.step p637; replace f_y612_sectors := f_y612_sectors.step p637; replace f_y612_pending := f_y612_pending.step p637; clear p637 hs629
     obtain ⟨v638, v639, rfl, h640, h641⟩ := h635
     obtain ⟨_, rfl, ⟨_, _, rfl, ⟨a_y642_records, c_y642_records, rfl, f_y642_records⟩, ⟨_, _, rfl, ⟨rfl, r_y642_many⟩, ⟨rfl, r_y642_synced⟩⟩⟩⟩ := h640
     obtain ⟨rfl, r_y643⟩ := h641
     refine Rg_op rfl (op_move (v := (Value.tuple [(Value.agg [(Value.slice a_y642_records open_2.1.records.length c_y642_records), (Value.int .i64 open_2.1.many), (Value.int .i64 open_2.1.synced)].toArray), (Value.int .i64 open_2.2)].toArray)) rfl ?_)
     refine Rg_op rfl (op_extract (v := (Value.agg [(Value.slice a_y642_records open_2.1.records.length c_y642_records), (Value.int .i64 open_2.1.many), (Value.int .i64 open_2.1.synced)].toArray)) rfl rfl ?_)
     refine Rg_op rfl (op_extract (v := (Value.int .i64 open_2.2)) rfl rfl ?_)
     refine Rg_op rfl (op_alloc ty52 hs636 ?_)
     intro b644 w645 _ p646 hs647
     replace f_y228_sectors := f_y228_sectors.step p646; replace f_y228_pending := f_y228_pending.step p646; replace f_y231_records := f_y231_records.step p646; replace f_y560_sectors := f_y560_sectors.step p646; replace f_y560_pending := f_y560_pending.step p646; replace f_y563_records := f_y563_records.step p646; replace f_y611_records := f_y611_records.step p646; replace f_y612_sectors := f_y612_sectors.step p646; replace f_y612_pending := f_y612_pending.step p646; replace f_y642_records := f_y642_records.step p646; clear p646 hs636
     refine Rg_op_ (op_store (cs := [(Value.slice none 0 0), (Value.int .i64 0), (Value.int .i64 0)]) (vs := [(Value.slice a_y642_records open_2.1.records.length c_y642_records), (Value.int .i64 open_2.1.many), (Value.int .i64 open_2.1.synced)]) (cs' := [(Value.slice a_y642_records open_2.1.records.length c_y642_records), (Value.int .i64 open_2.1.many), (Value.int .i64 open_2.1.synced)]) (bs' := [(some b644, Obj.cells [(Value.slice a_y642_records open_2.1.records.length c_y642_records), (Value.int .i64 open_2.1.many), (Value.int .i64 open_2.1.synced)].toArray 52), (some b619, Obj.cells [(Value.slice a_y612_sectors sync_4.2.1.sectors.length c_y612_sectors), (Value.slice a_y612_pending sync_4.2.1.pending.length c_y612_pending), (Value.int .i64 sync_4.2.1.left), (Value.bool sync_4.2.1.stopped)].toArray 25), (some b614, Obj.cells [(Value.slice a_y611_records sync_4.1.records.length c_y611_records), (Value.int .i64 sync_4.1.many), (Value.int .i64 sync_4.1.synced)].toArray 52), (some b552, Obj.cells [(Value.slice a_y563_records sync_3.1.records.length c_y563_records), (Value.int .i64 sync_3.1.many), (Value.int .i64 sync_3.1.synced)].toArray 52), (some b549, Obj.cells [(Value.slice a_y560_sectors sync_3.2.1.sectors.length c_y560_sectors), (Value.slice a_y560_pending sync_3.2.1.pending.length c_y560_pending), (Value.int .i64 sync_3.2.1.left), (Value.bool sync_3.2.1.stopped)].toArray 25), (some b220, Obj.cells [(Value.slice a_y231_records sync_1.1.records.length c_y231_records), (Value.int .i64 sync_1.1.many), (Value.int .i64 sync_1.1.synced)].toArray 52), (some b217, Obj.cells [(Value.slice a_y228_sectors sync_1.2.1.sectors.length c_y228_sectors), (Value.slice a_y228_pending sync_1.2.1.pending.length c_y228_pending), (Value.int .i64 sync_1.2.1.left), (Value.bool sync_1.2.1.stopped)].toArray 25)]) (i := 0) ty52 hs647 rfl rfl rfl rfl rfl (le_lit rfl) rfl rfl rfl ?_)
     intro w649 p650 hs651
     replace f_y228_sectors := f_y228_sectors.step p650; replace f_y228_pending := f_y228_pending.step p650; replace f_y231_records := f_y231_records.step p650; replace f_y560_sectors := f_y560_sectors.step p650; replace f_y560_pending := f_y560_pending.step p650; replace f_y563_records := f_y563_records.step p650; replace f_y611_records := f_y611_records.step p650; replace f_y612_sectors := f_y612_sectors.step p650; replace f_y612_pending := f_y612_pending.step p650; replace f_y642_records := f_y642_records.step p650; clear p650 hs647
     refine Rg_op rfl (op_assign (v := (Value.int .i64 open_2.2)) rfl ?_)
     refine Rg_nil ?_
     refine Wp_seq ?_
     obtain ⟨hs652, p653⟩ := hs651.sub (bs' := [(some b644, Obj.cells [(Value.slice a_y642_records open_2.1.records.length c_y642_records), (Value.int .i64 open_2.1.many), (Value.int .i64 open_2.1.synced)].toArray 52), (some b619, Obj.cells [(Value.slice a_y612_sectors sync_4.2.1.sectors.length c_y612_sectors), (Value.slice a_y612_pending sync_4.2.1.pending.length c_y612_pending), (Value.int .i64 sync_4.2.1.left), (Value.bool sync_4.2.1.stopped)].toArray 25), (some b614, Obj.cells [(Value.slice a_y611_records sync_4.1.records.length c_y611_records), (Value.int .i64 sync_4.1.many), (Value.int .i64 sync_4.1.synced)].toArray 52), (some b552, Obj.cells [(Value.slice a_y563_records sync_3.1.records.length c_y563_records), (Value.int .i64 sync_3.1.many), (Value.int .i64 sync_3.1.synced)].toArray 52), (some b549, Obj.cells [(Value.slice a_y560_sectors sync_3.2.1.sectors.length c_y560_sectors), (Value.slice a_y560_pending sync_3.2.1.pending.length c_y560_pending), (Value.int .i64 sync_3.2.1.left), (Value.bool sync_3.2.1.stopped)].toArray 25), (some b220, Obj.cells [(Value.slice a_y231_records sync_1.1.records.length c_y231_records), (Value.int .i64 sync_1.1.many), (Value.int .i64 sync_1.1.synced)].toArray 52)]) (.cons_cons _ (.cons_cons _ (.cons_cons _ (.cons_cons _ (.cons_cons _ (.cons_cons _ (.cons _ List.Sublist.slnil)))))))
     clear f_y228_sectors f_y228_pending
     replace f_y231_records := f_y231_records.step p653; replace f_y560_sectors := f_y560_sectors.step p653; replace f_y560_pending := f_y560_pending.step p653; replace f_y563_records := f_y563_records.step p653; replace f_y611_records := f_y611_records.step p653; replace f_y612_sectors := f_y612_sectors.step p653; replace f_y612_pending := f_y612_pending.step p653; replace f_y642_records := f_y642_records.step p653; clear p653 hs651
     refine Wp_region ?_
     refine Rg_op rfl (op_loadA (cs := [(Value.slice a_y612_sectors sync_4.2.1.sectors.length c_y612_sectors), (Value.slice a_y612_pending sync_4.2.1.pending.length c_y612_pending), (Value.int .i64 sync_4.2.1.left), (Value.bool sync_4.2.1.stopped)]) (vs := [(Value.slice a_y612_sectors sync_4.2.1.sectors.length c_y612_sectors), (Value.slice a_y612_pending sync_4.2.1.pending.length c_y612_pending), (Value.int .i64 sync_4.2.1.left), (Value.bool sync_4.2.1.stopped)]) (i := 1) ty25 hs652 rfl rfl rfl rfl ?_)
     replace hm := bd hm; obtain ⟨open_3, hv654, hm⟩ := hm
     refine Rg_op rfl (op_call Try.call38 (c38_journal_Open (d := sync_4.2.1) hs652.ltw f_y612_sectors f_y612_pending r_y612_left hv654) rfl ?_)
     rintro v655 w656 ⟨hx657, h658⟩
     have hs659 := hs652.call hx657
     have p660 := Step.ext (O := ks [(some b644, Obj.cells [(Value.slice a_y642_records open_2.1.records.length c_y642_records), (Value.int .i64 open_2.1.many), (Value.int .i64 open_2.1.synced)].toArray 52), (some b619, Obj.cells [(Value.slice a_y612_sectors sync_4.2.1.sectors.length c_y612_sectors), (Value.slice a_y612_pending sync_4.2.1.pending.length c_y612_pending), (Value.int .i64 sync_4.2.1.left), (Value.bool sync_4.2.1.stopped)].toArray 25), (some b614, Obj.cells [(Value.slice a_y611_records sync_4.1.records.length c_y611_records), (Value.int .i64 sync_4.1.many), (Value.int .i64 sync_4.1.synced)].toArray 52), (some b552, Obj.cells [(Value.slice a_y563_records sync_3.1.records.length c_y563_records), (Value.int .i64 sync_3.1.many), (Value.int .i64 sync_3.1.synced)].toArray 52), (some b549, Obj.cells [(Value.slice a_y560_sectors sync_3.2.1.sectors.length c_y560_sectors), (Value.slice a_y560_pending sync_3.2.1.pending.length c_y560_pending), (Value.int .i64 sync_3.2.1.left), (Value.bool sync_3.2.1.stopped)].toArray 25), (some b220, Obj.cells [(Value.slice a_y231_records sync_1.1.records.length c_y231_records), (Value.int .i64 sync_1.1.many), (Value.int .i64 sync_1.1.synced)].toArray 52)] O) hx657
     clear hx657
     replace f_y231_records := f_y231_records.step p660; replace f_y560_sectors := f_y560_sectors.step p660; replace f_y560_pending := f_y560_pending.step p660; replace f_y563_records := f_y563_records.step p660; replace f_y611_records := f_y611_records.step p660; replace f_y612_sectors := f_y612_sectors.step p660; replace f_y612_pending := f_y612_pending.step p660; replace f_y642_records := f_y642_records.step p660; clear p660 hs652
     obtain ⟨v661, v662, rfl, h663, h664⟩ := h658
     obtain ⟨_, rfl, ⟨_, _, rfl, ⟨a_y665_records, c_y665_records, rfl, f_y665_records⟩, ⟨_, _, rfl, ⟨rfl, r_y665_many⟩, ⟨rfl, r_y665_synced⟩⟩⟩⟩ := h663
     obtain ⟨rfl, r_y666⟩ := h664
     refine Rg_op rfl (op_move (v := (Value.tuple [(Value.agg [(Value.slice a_y665_records open_3.1.records.length c_y665_records), (Value.int .i64 open_3.1.many), (Value.int .i64 open_3.1.synced)].toArray), (Value.int .i64 open_3.2)].toArray)) rfl ?_)
     refine Rg_op rfl (op_extract (v := (Value.agg [(Value.slice a_y665_records open_3.1.records.length c_y665_records), (Value.int .i64 open_3.1.many), (Value.int .i64 open_3.1.synced)].toArray)) rfl rfl ?_)
     refine Rg_op rfl (op_extract (v := (Value.int .i64 open_3.2)) rfl rfl ?_)
     refine Rg_op rfl (op_alloc ty52 hs659 ?_)
     intro b667 w668 _ p669 hs670
     replace f_y231_records := f_y231_records.step p669; replace f_y560_sectors := f_y560_sectors.step p669; replace f_y560_pending := f_y560_pending.step p669; replace f_y563_records := f_y563_records.step p669; replace f_y611_records := f_y611_records.step p669; replace f_y612_sectors := f_y612_sectors.step p669; replace f_y612_pending := f_y612_pending.step p669; replace f_y642_records := f_y642_records.step p669; replace f_y665_records := f_y665_records.step p669; clear p669 hs659
     refine Rg_op_ (op_store (cs := [(Value.slice none 0 0), (Value.int .i64 0), (Value.int .i64 0)]) (vs := [(Value.slice a_y665_records open_3.1.records.length c_y665_records), (Value.int .i64 open_3.1.many), (Value.int .i64 open_3.1.synced)]) (cs' := [(Value.slice a_y665_records open_3.1.records.length c_y665_records), (Value.int .i64 open_3.1.many), (Value.int .i64 open_3.1.synced)]) (bs' := [(some b667, Obj.cells [(Value.slice a_y665_records open_3.1.records.length c_y665_records), (Value.int .i64 open_3.1.many), (Value.int .i64 open_3.1.synced)].toArray 52), (some b644, Obj.cells [(Value.slice a_y642_records open_2.1.records.length c_y642_records), (Value.int .i64 open_2.1.many), (Value.int .i64 open_2.1.synced)].toArray 52), (some b619, Obj.cells [(Value.slice a_y612_sectors sync_4.2.1.sectors.length c_y612_sectors), (Value.slice a_y612_pending sync_4.2.1.pending.length c_y612_pending), (Value.int .i64 sync_4.2.1.left), (Value.bool sync_4.2.1.stopped)].toArray 25), (some b614, Obj.cells [(Value.slice a_y611_records sync_4.1.records.length c_y611_records), (Value.int .i64 sync_4.1.many), (Value.int .i64 sync_4.1.synced)].toArray 52), (some b552, Obj.cells [(Value.slice a_y563_records sync_3.1.records.length c_y563_records), (Value.int .i64 sync_3.1.many), (Value.int .i64 sync_3.1.synced)].toArray 52), (some b549, Obj.cells [(Value.slice a_y560_sectors sync_3.2.1.sectors.length c_y560_sectors), (Value.slice a_y560_pending sync_3.2.1.pending.length c_y560_pending), (Value.int .i64 sync_3.2.1.left), (Value.bool sync_3.2.1.stopped)].toArray 25), (some b220, Obj.cells [(Value.slice a_y231_records sync_1.1.records.length c_y231_records), (Value.int .i64 sync_1.1.many), (Value.int .i64 sync_1.1.synced)].toArray 52)]) (i := 0) ty52 hs670 rfl rfl rfl rfl rfl (le_lit rfl) rfl rfl rfl ?_)
     intro w672 p673 hs674
     replace f_y231_records := f_y231_records.step p673; replace f_y560_sectors := f_y560_sectors.step p673; replace f_y560_pending := f_y560_pending.step p673; replace f_y563_records := f_y563_records.step p673; replace f_y611_records := f_y611_records.step p673; replace f_y612_sectors := f_y612_sectors.step p673; replace f_y612_pending := f_y612_pending.step p673; replace f_y642_records := f_y642_records.step p673; replace f_y665_records := f_y665_records.step p673; clear p673 hs670
     refine Rg_op rfl (op_assign (v := (Value.int .i64 open_3.2)) rfl ?_)
     refine Rg_nil ?_
     refine Wp_reset [] [(10, (Value.pointer (some ⟨b220, 0, none⟩))), (12, (Value.int .i64 sync_1.2.2)), (15, (Value.int .i64 sync_2.2.2)), (16, (Value.pointer (some ⟨b552, 0, none⟩))), (17, (Value.pointer (some ⟨b549, 0, none⟩))), (18, (Value.int .i64 sync_3.2.2)), (19, (Value.pointer (some ⟨b614, 0, none⟩))), (20, (Value.pointer (some ⟨b619, 0, none⟩))), (21, (Value.int .i64 sync_4.2.2)), (22, (Value.pointer (some ⟨b644, 0, none⟩))), (23, (Value.int .i64 open_2.2)), (24, (Value.pointer (some ⟨b667, 0, none⟩))), (25, (Value.int .i64 open_3.2))] rfl ⟨rfl, rfl, rfl, rfl, rfl, rfl, rfl, rfl, rfl, rfl, rfl, rfl, rfl, trivial⟩ fun ξ675 => ?_
     replace hm := jn_elim hm; obtain ⟨k677, hk678, hm⟩ := hm
     refine Wp_seqJ [4, 103, 104, 105, 106, 107, 108, 109, 110, 111, 112, 113, 114, 115, 116, 117, 118, 119, 120, 121, 122, 123, 124, 125, 126, 127, 128, 129, 130, 131, 132, 133, 134, 135, 136, 137, 138, 139, 140, 141, 142, 143, 144, 145, 146, 147, 148, 149, 150, 151, 152, 153] (fun fr w' => ∃ (v_2 : Bool) (Ebs : Ents), Ebs = [(some b667, Obj.cells [(Value.slice a_y665_records open_3.1.records.length c_y665_records), (Value.int .i64 open_3.1.many), (Value.int .i64 open_3.1.synced)].toArray 52), (some b644, Obj.cells [(Value.slice a_y642_records open_2.1.records.length c_y642_records), (Value.int .i64 open_2.1.many), (Value.int .i64 open_2.1.synced)].toArray 52), (some b619, Obj.cells [(Value.slice a_y612_sectors sync_4.2.1.sectors.length c_y612_sectors), (Value.slice a_y612_pending sync_4.2.1.pending.length c_y612_pending), (Value.int .i64 sync_4.2.1.left), (Value.bool sync_4.2.1.stopped)].toArray 25), (some b614, Obj.cells [(Value.slice a_y611_records sync_4.1.records.length c_y611_records), (Value.int .i64 sync_4.1.many), (Value.int .i64 sync_4.1.synced)].toArray 52), (some b552, Obj.cells [(Value.slice a_y563_records sync_3.1.records.length c_y563_records), (Value.int .i64 sync_3.1.many), (Value.int .i64 sync_3.1.synced)].toArray 52), (some b549, Obj.cells [(Value.slice a_y560_sectors sync_3.2.1.sectors.length c_y560_sectors), (Value.slice a_y560_pending sync_3.2.1.pending.length c_y560_pending), (Value.int .i64 sync_3.2.1.left), (Value.bool sync_3.2.1.stopped)].toArray 25), (some b220, Obj.cells [(Value.slice a_y231_records sync_1.1.records.length c_y231_records), (Value.int .i64 sync_1.1.many), (Value.int .i64 sync_1.1.synced)].toArray 52)] ∧ fr [] [(4, (Value.bool v_2))] ∧ Step (ks [(some b667, Obj.cells [(Value.slice a_y665_records open_3.1.records.length c_y665_records), (Value.int .i64 open_3.1.many), (Value.int .i64 open_3.1.synced)].toArray 52), (some b644, Obj.cells [(Value.slice a_y642_records open_2.1.records.length c_y642_records), (Value.int .i64 open_2.1.many), (Value.int .i64 open_2.1.synced)].toArray 52), (some b619, Obj.cells [(Value.slice a_y612_sectors sync_4.2.1.sectors.length c_y612_sectors), (Value.slice a_y612_pending sync_4.2.1.pending.length c_y612_pending), (Value.int .i64 sync_4.2.1.left), (Value.bool sync_4.2.1.stopped)].toArray 25), (some b614, Obj.cells [(Value.slice a_y611_records sync_4.1.records.length c_y611_records), (Value.int .i64 sync_4.1.many), (Value.int .i64 sync_4.1.synced)].toArray 52), (some b552, Obj.cells [(Value.slice a_y563_records sync_3.1.records.length c_y563_records), (Value.int .i64 sync_3.1.many), (Value.int .i64 sync_3.1.synced)].toArray 52), (some b549, Obj.cells [(Value.slice a_y560_sectors sync_3.2.1.sectors.length c_y560_sectors), (Value.slice a_y560_pending sync_3.2.1.pending.length c_y560_pending), (Value.int .i64 sync_3.2.1.left), (Value.bool sync_3.2.1.stopped)].toArray 25), (some b220, Obj.cells [(Value.slice a_y231_records sync_1.1.records.length c_y231_records), (Value.int .i64 sync_1.1.many), (Value.int .i64 sync_1.1.synced)].toArray 52)] O) w672 (ks Ebs O) w' ∧ St ⟨w, [], []⟩ O w' Ebs ∧ k677 v_2 = some x) ?_ ?_
     ·
      rintro ρ684 w680 ⟨v_2, Ebs, hEbs, hfr683, hst682, hs681, hm⟩
      replace hm := jnE1 hk678 hm
      subst hEbs; rw [hfr683.eq]; clear hfr683
      replace f_y231_records := f_y231_records.step hst682; replace f_y560_sectors := f_y560_sectors.step hst682; replace f_y560_pending := f_y560_pending.step hst682; replace f_y563_records := f_y563_records.step hst682; replace f_y611_records := f_y611_records.step hst682; replace f_y612_sectors := f_y612_sectors.step hst682; replace f_y612_pending := f_y612_pending.step hst682; replace f_y642_records := f_y642_records.step hst682; replace f_y665_records := f_y665_records.step hst682; clear hst682 hs674
      refine Wp_ret ?_
      have hz := step_all hs681
      replace f_y231_records := f_y231_records.step hz; replace f_y560_sectors := f_y560_sectors.step hz; replace f_y560_pending := f_y560_pending.step hz; replace f_y563_records := f_y563_records.step hz; replace f_y611_records := f_y611_records.step hz; replace f_y612_sectors := f_y612_sectors.step hz; replace f_y612_pending := f_y612_pending.step hz; replace f_y642_records := f_y642_records.step hz; replace f_y665_records := f_y665_records.step hz
      refine ⟨_, (show Closes [] _ _ from rfl), [(Value.bool v_2)], ⟨rfl, trivial⟩, hs681.ext, ?_⟩
      exact Vr.eq (a := vB) (x := v_2) rfl (Option.some.inj hm)
     ·
      intro K679 hK679
      have ch685 := Step.refl (ks [(some b667, Obj.cells [(Value.slice a_y665_records open_3.1.records.length c_y665_records), (Value.int .i64 open_3.1.many), (Value.int .i64 open_3.1.synced)].toArray 52), (some b644, Obj.cells [(Value.slice a_y642_records open_2.1.records.length c_y642_records), (Value.int .i64 open_2.1.many), (Value.int .i64 open_2.1.synced)].toArray 52), (some b619, Obj.cells [(Value.slice a_y612_sectors sync_4.2.1.sectors.length c_y612_sectors), (Value.slice a_y612_pending sync_4.2.1.pending.length c_y612_pending), (Value.int .i64 sync_4.2.1.left), (Value.bool sync_4.2.1.stopped)].toArray 25), (some b614, Obj.cells [(Value.slice a_y611_records sync_4.1.records.length c_y611_records), (Value.int .i64 sync_4.1.many), (Value.int .i64 sync_4.1.synced)].toArray 52), (some b552, Obj.cells [(Value.slice a_y563_records sync_3.1.records.length c_y563_records), (Value.int .i64 sync_3.1.many), (Value.int .i64 sync_3.1.synced)].toArray 52), (some b549, Obj.cells [(Value.slice a_y560_sectors sync_3.2.1.sectors.length c_y560_sectors), (Value.slice a_y560_pending sync_3.2.1.pending.length c_y560_pending), (Value.int .i64 sync_3.2.1.left), (Value.bool sync_3.2.1.stopped)].toArray 25), (some b220, Obj.cells [(Value.slice a_y231_records sync_1.1.records.length c_y231_records), (Value.int .i64 sync_1.1.many), (Value.int .i64 sync_1.1.synced)].toArray 52)] O) w672
      refine Wp_region ?_
      refine Rg_op rfl (op_move (v := (Value.int .i64 sync_1.2.2)) rfl ?_)
      refine Rg_op rfl (op_eql rfl rfl ?_)
      refine Rg_op rfl (op_move (v := (Value.bool (decide (sync_1.2.2 = 0)))) rfl ?_)
      refine Rg_case (fun hg686 => ?_) (fun hg686 => ?_)
      ·
       replace hm := bif_t hm hg686
       refine Rg_opg rfl rfl rfl (op_move (v := (Value.int .i64 sync_2.2.2)) rfl ?_)
       refine Rg_opg rfl rfl rfl (op_eql rfl rfl ?_)
       refine Rg_op rfl (op_pick_t (v := (Value.bool (decide (sync_2.2.2 = 0)))) rfl rfl ?_)
       refine Rg_op rfl (op_move (v := (Value.bool (decide (sync_2.2.2 = 0)))) rfl ?_)
       refine Rg_case (fun hg687 => ?_) (fun hg687 => ?_)
       ·
        replace hm := bif_t hm hg687
        refine Rg_opg rfl rfl rfl (op_move (v := (Value.int .i64 sync_3.2.2)) rfl ?_)
        refine Rg_opg rfl rfl rfl (op_eql rfl rfl ?_)
        refine Rg_op rfl (op_pick_t (v := (Value.bool (decide (sync_3.2.2 = 0)))) rfl rfl ?_)
        refine Rg_op rfl (op_move (v := (Value.bool (decide (sync_3.2.2 = 0)))) rfl ?_)
        refine Rg_case (fun hg688 => ?_) (fun hg688 => ?_)
        ·
         replace hm := bif_t hm hg688
         refine Rg_opg rfl rfl rfl (op_move (v := (Value.int .i64 sync_4.2.2)) rfl ?_)
         refine Rg_opg rfl rfl rfl (op_eql rfl rfl ?_)
         refine Rg_op rfl (op_pick_t (v := (Value.bool (decide (sync_4.2.2 = 0)))) rfl rfl ?_)
         refine Rg_op rfl (op_move (v := (Value.bool (decide (sync_4.2.2 = 0)))) rfl ?_)
         refine Rg_case (fun hg689 => ?_) (fun hg689 => ?_)
         ·
          replace hm := bif_t hm hg689
          refine Rg_opg rfl rfl rfl (op_move (v := (Value.int .i64 open_2.2)) rfl ?_)
          refine Rg_opg rfl rfl rfl (op_eql rfl rfl ?_)
          refine Rg_op rfl (op_pick_t (v := (Value.bool (decide (open_2.2 = 0)))) rfl rfl ?_)
          refine Rg_op rfl (op_move (v := (Value.bool (decide (open_2.2 = 0)))) rfl ?_)
          refine Rg_case (fun hg690 => ?_) (fun hg690 => ?_)
          ·
           replace hm := bif_t hm hg690
           refine Rg_opg rfl rfl rfl (op_move (v := (Value.int .i64 open_3.2)) rfl ?_)
           refine Rg_opg rfl rfl rfl (op_eql rfl rfl ?_)
           refine Rg_op rfl (op_pick_t (v := (Value.bool (decide (open_3.2 = 0)))) rfl rfl ?_)
           refine Rg_op rfl (op_move (v := (Value.bool (decide (open_3.2 = 0)))) rfl ?_)
           refine Rg_case (fun hg691 => ?_) (fun hg691 => ?_)
           ·
            replace hm := bif_t hm hg691
            refine Rg_opg rfl rfl rfl (op_loadA (cs := [(Value.slice a_y231_records sync_1.1.records.length c_y231_records), (Value.int .i64 sync_1.1.many), (Value.int .i64 sync_1.1.synced)]) (vs := [(Value.slice a_y231_records sync_1.1.records.length c_y231_records), (Value.int .i64 sync_1.1.many), (Value.int .i64 sync_1.1.synced)]) (i := 6) ty52 hs674 rfl rfl rfl rfl ?_)
            refine Rg_opg rfl rfl rfl (op_loadA (cs := [(Value.slice a_y563_records sync_3.1.records.length c_y563_records), (Value.int .i64 sync_3.1.many), (Value.int .i64 sync_3.1.synced)]) (vs := [(Value.slice a_y563_records sync_3.1.records.length c_y563_records), (Value.int .i64 sync_3.1.many), (Value.int .i64 sync_3.1.synced)]) (i := 4) ty52 hs674 rfl rfl rfl rfl ?_)
            replace hm := bd hm; obtain ⟨same_1, hv692, hm⟩ := hm
            refine Rg_opg rfl rfl rfl (op_call Try.call36 (c36_overflightref45_Same (a := sync_1.1) (b := sync_3.1) hs674.ltw f_y231_records r_y231_many r_y231_synced f_y563_records r_y563_many r_y563_synced hv692) rfl ?_)
            rintro v693 w694 ⟨hx695, h696⟩
            have hs697 := hs674.call hx695
            have p698 := Step.ext (O := ks [(some b667, Obj.cells [(Value.slice a_y665_records open_3.1.records.length c_y665_records), (Value.int .i64 open_3.1.many), (Value.int .i64 open_3.1.synced)].toArray 52), (some b644, Obj.cells [(Value.slice a_y642_records open_2.1.records.length c_y642_records), (Value.int .i64 open_2.1.many), (Value.int .i64 open_2.1.synced)].toArray 52), (some b619, Obj.cells [(Value.slice a_y612_sectors sync_4.2.1.sectors.length c_y612_sectors), (Value.slice a_y612_pending sync_4.2.1.pending.length c_y612_pending), (Value.int .i64 sync_4.2.1.left), (Value.bool sync_4.2.1.stopped)].toArray 25), (some b614, Obj.cells [(Value.slice a_y611_records sync_4.1.records.length c_y611_records), (Value.int .i64 sync_4.1.many), (Value.int .i64 sync_4.1.synced)].toArray 52), (some b552, Obj.cells [(Value.slice a_y563_records sync_3.1.records.length c_y563_records), (Value.int .i64 sync_3.1.many), (Value.int .i64 sync_3.1.synced)].toArray 52), (some b549, Obj.cells [(Value.slice a_y560_sectors sync_3.2.1.sectors.length c_y560_sectors), (Value.slice a_y560_pending sync_3.2.1.pending.length c_y560_pending), (Value.int .i64 sync_3.2.1.left), (Value.bool sync_3.2.1.stopped)].toArray 25), (some b220, Obj.cells [(Value.slice a_y231_records sync_1.1.records.length c_y231_records), (Value.int .i64 sync_1.1.many), (Value.int .i64 sync_1.1.synced)].toArray 52)] O) hx695
            clear hx695
            replace f_y231_records := f_y231_records.step p698; replace f_y560_sectors := f_y560_sectors.step p698; replace f_y560_pending := f_y560_pending.step p698; replace f_y563_records := f_y563_records.step p698; replace f_y611_records := f_y611_records.step p698; replace f_y612_sectors := f_y612_sectors.step p698; replace f_y612_pending := f_y612_pending.step p698; replace f_y642_records := f_y642_records.step p698; replace f_y665_records := f_y665_records.step p698; replace ch685 := ch685.trans p698; clear p698 hs674
            obtain rfl := h696
            refine Rg_op rfl (op_pick_t (v := (Value.bool same_1)) rfl rfl ?_)
            refine Rg_op rfl (op_move (v := (Value.bool same_1)) rfl ?_)
            refine Rg_case (fun hg700 => ?_) (fun hg700 => ?_)
            ·
             replace hm := bif_t hm hg700
             refine Rg_opg rfl rfl rfl (op_loadA (cs := [(Value.slice a_y611_records sync_4.1.records.length c_y611_records), (Value.int .i64 sync_4.1.many), (Value.int .i64 sync_4.1.synced)]) (vs := [(Value.slice a_y611_records sync_4.1.records.length c_y611_records), (Value.int .i64 sync_4.1.many), (Value.int .i64 sync_4.1.synced)]) (i := 3) ty52 hs697 rfl rfl rfl rfl ?_)
             refine Rg_opg rfl rfl rfl (op_loadA (cs := [(Value.slice a_y563_records sync_3.1.records.length c_y563_records), (Value.int .i64 sync_3.1.many), (Value.int .i64 sync_3.1.synced)]) (vs := [(Value.slice a_y563_records sync_3.1.records.length c_y563_records), (Value.int .i64 sync_3.1.many), (Value.int .i64 sync_3.1.synced)]) (i := 4) ty52 hs697 rfl rfl rfl rfl ?_)
             replace hm := bd hm; obtain ⟨same_2, hv701, hm⟩ := hm
             refine Rg_opg rfl rfl rfl (op_call Try.call36 (c36_overflightref45_Same (a := sync_4.1) (b := sync_3.1) hs697.ltw f_y611_records r_y611_many r_y611_synced f_y563_records r_y563_many r_y563_synced hv701) rfl ?_)
             rintro v702 w703 ⟨hx704, h705⟩
             have hs706 := hs697.call hx704
             have p707 := Step.ext (O := ks [(some b667, Obj.cells [(Value.slice a_y665_records open_3.1.records.length c_y665_records), (Value.int .i64 open_3.1.many), (Value.int .i64 open_3.1.synced)].toArray 52), (some b644, Obj.cells [(Value.slice a_y642_records open_2.1.records.length c_y642_records), (Value.int .i64 open_2.1.many), (Value.int .i64 open_2.1.synced)].toArray 52), (some b619, Obj.cells [(Value.slice a_y612_sectors sync_4.2.1.sectors.length c_y612_sectors), (Value.slice a_y612_pending sync_4.2.1.pending.length c_y612_pending), (Value.int .i64 sync_4.2.1.left), (Value.bool sync_4.2.1.stopped)].toArray 25), (some b614, Obj.cells [(Value.slice a_y611_records sync_4.1.records.length c_y611_records), (Value.int .i64 sync_4.1.many), (Value.int .i64 sync_4.1.synced)].toArray 52), (some b552, Obj.cells [(Value.slice a_y563_records sync_3.1.records.length c_y563_records), (Value.int .i64 sync_3.1.many), (Value.int .i64 sync_3.1.synced)].toArray 52), (some b549, Obj.cells [(Value.slice a_y560_sectors sync_3.2.1.sectors.length c_y560_sectors), (Value.slice a_y560_pending sync_3.2.1.pending.length c_y560_pending), (Value.int .i64 sync_3.2.1.left), (Value.bool sync_3.2.1.stopped)].toArray 25), (some b220, Obj.cells [(Value.slice a_y231_records sync_1.1.records.length c_y231_records), (Value.int .i64 sync_1.1.many), (Value.int .i64 sync_1.1.synced)].toArray 52)] O) hx704
             clear hx704
             replace f_y231_records := f_y231_records.step p707; replace f_y560_sectors := f_y560_sectors.step p707; replace f_y560_pending := f_y560_pending.step p707; replace f_y563_records := f_y563_records.step p707; replace f_y611_records := f_y611_records.step p707; replace f_y612_sectors := f_y612_sectors.step p707; replace f_y612_pending := f_y612_pending.step p707; replace f_y642_records := f_y642_records.step p707; replace f_y665_records := f_y665_records.step p707; replace ch685 := ch685.trans p707; clear p707 hs697
             obtain rfl := h705
             refine Rg_op rfl (op_pick_t (v := (Value.bool same_2)) rfl rfl ?_)
             refine Rg_op rfl (op_move (v := (Value.bool same_2)) rfl ?_)
             refine Rg_case (fun hg709 => ?_) (fun hg709 => ?_)
             ·
              replace hm := bif_t hm hg709
              refine Rg_opg rfl rfl rfl (op_fieldAddr ty52 rfl ty22 (by decide) rfl (rfl : _ = (⟨_, 0, none⟩ : Addr)) ?_)
              refine Rg_opg rfl rfl rfl (op_load (cs := [(Value.slice a_y642_records open_2.1.records.length c_y642_records), (Value.int .i64 open_2.1.many), (Value.int .i64 open_2.1.synced)]) (i := 1) ty22 hs706 rfl rfl rfl ?_)
              refine Rg_opg rfl rfl rfl (op_fieldAddr ty52 rfl ty22 (by decide) rfl (rfl : _ = (⟨_, 0, none⟩ : Addr)) ?_)
              refine Rg_opg rfl rfl rfl (op_load (cs := [(Value.slice a_y665_records open_3.1.records.length c_y665_records), (Value.int .i64 open_3.1.many), (Value.int .i64 open_3.1.synced)]) (i := 0) ty22 hs706 rfl rfl rfl ?_)
              replace hm := bd hm; obtain ⟨samerecords_1, hv710, hm⟩ := hm
              refine Rg_opg rfl rfl rfl (op_call Try.call37 (c37_overflightref45_SameRecords (a := open_2.1.records) (b := open_3.1.records) hs706.ltw f_y642_records f_y665_records hv710) rfl ?_)
              rintro v711 w712 ⟨hx713, h714⟩
              have hs715 := hs706.call hx713
              have p716 := Step.ext (O := ks [(some b667, Obj.cells [(Value.slice a_y665_records open_3.1.records.length c_y665_records), (Value.int .i64 open_3.1.many), (Value.int .i64 open_3.1.synced)].toArray 52), (some b644, Obj.cells [(Value.slice a_y642_records open_2.1.records.length c_y642_records), (Value.int .i64 open_2.1.many), (Value.int .i64 open_2.1.synced)].toArray 52), (some b619, Obj.cells [(Value.slice a_y612_sectors sync_4.2.1.sectors.length c_y612_sectors), (Value.slice a_y612_pending sync_4.2.1.pending.length c_y612_pending), (Value.int .i64 sync_4.2.1.left), (Value.bool sync_4.2.1.stopped)].toArray 25), (some b614, Obj.cells [(Value.slice a_y611_records sync_4.1.records.length c_y611_records), (Value.int .i64 sync_4.1.many), (Value.int .i64 sync_4.1.synced)].toArray 52), (some b552, Obj.cells [(Value.slice a_y563_records sync_3.1.records.length c_y563_records), (Value.int .i64 sync_3.1.many), (Value.int .i64 sync_3.1.synced)].toArray 52), (some b549, Obj.cells [(Value.slice a_y560_sectors sync_3.2.1.sectors.length c_y560_sectors), (Value.slice a_y560_pending sync_3.2.1.pending.length c_y560_pending), (Value.int .i64 sync_3.2.1.left), (Value.bool sync_3.2.1.stopped)].toArray 25), (some b220, Obj.cells [(Value.slice a_y231_records sync_1.1.records.length c_y231_records), (Value.int .i64 sync_1.1.many), (Value.int .i64 sync_1.1.synced)].toArray 52)] O) hx713
              clear hx713
              replace f_y231_records := f_y231_records.step p716; replace f_y560_sectors := f_y560_sectors.step p716; replace f_y560_pending := f_y560_pending.step p716; replace f_y563_records := f_y563_records.step p716; replace f_y611_records := f_y611_records.step p716; replace f_y612_sectors := f_y612_sectors.step p716; replace f_y612_pending := f_y612_pending.step p716; replace f_y642_records := f_y642_records.step p716; replace f_y665_records := f_y665_records.step p716; replace ch685 := ch685.trans p716; clear p716 hs706
              obtain rfl := h714
              refine Rg_op rfl (op_pick_t (v := (Value.bool samerecords_1)) rfl rfl ?_)
              refine Rg_op rfl (op_move (v := (Value.bool samerecords_1)) rfl ?_)
              refine Rg_case (fun hg718 => ?_) (fun hg718 => ?_)
              ·
               replace hm := bif_t hm hg718
               refine Rg_opg rfl rfl rfl (op_fieldAddr ty52 rfl ty22 (by decide) rfl (rfl : _ = (⟨_, 0, none⟩ : Addr)) ?_)
               refine Rg_opg rfl rfl rfl (op_load (cs := [(Value.slice a_y642_records open_2.1.records.length c_y642_records), (Value.int .i64 open_2.1.many), (Value.int .i64 open_2.1.synced)]) (i := 1) ty22 hs715 rfl rfl rfl ?_)
               refine Rg_opg rfl rfl rfl (op_fieldAddr ty52 rfl ty22 (by decide) rfl (rfl : _ = (⟨_, 0, none⟩ : Addr)) ?_)
               refine Rg_opg rfl rfl rfl (op_load (cs := [(Value.slice a_y231_records sync_1.1.records.length c_y231_records), (Value.int .i64 sync_1.1.many), (Value.int .i64 sync_1.1.synced)]) (i := 6) ty22 hs715 rfl rfl rfl ?_)
               replace hm := bd hm; obtain ⟨samerecords_2, hv719, hm⟩ := hm
               refine Rg_opg rfl rfl rfl (op_call Try.call37 (c37_overflightref45_SameRecords (a := open_2.1.records) (b := sync_1.1.records) hs715.ltw f_y642_records f_y231_records hv719) rfl ?_)
               rintro v720 w721 ⟨hx722, h723⟩
               have hs724 := hs715.call hx722
               have p725 := Step.ext (O := ks [(some b667, Obj.cells [(Value.slice a_y665_records open_3.1.records.length c_y665_records), (Value.int .i64 open_3.1.many), (Value.int .i64 open_3.1.synced)].toArray 52), (some b644, Obj.cells [(Value.slice a_y642_records open_2.1.records.length c_y642_records), (Value.int .i64 open_2.1.many), (Value.int .i64 open_2.1.synced)].toArray 52), (some b619, Obj.cells [(Value.slice a_y612_sectors sync_4.2.1.sectors.length c_y612_sectors), (Value.slice a_y612_pending sync_4.2.1.pending.length c_y612_pending), (Value.int .i64 sync_4.2.1.left), (Value.bool sync_4.2.1.stopped)].toArray 25), (some b614, Obj.cells [(Value.slice a_y611_records sync_4.1.records.length c_y611_records), (Value.int .i64 sync_4.1.many), (Value.int .i64 sync_4.1.synced)].toArray 52), (some b552, Obj.cells [(Value.slice a_y563_records sync_3.1.records.length c_y563_records), (Value.int .i64 sync_3.1.many), (Value.int .i64 sync_3.1.synced)].toArray 52), (some b549, Obj.cells [(Value.slice a_y560_sectors sync_3.2.1.sectors.length c_y560_sectors), (Value.slice a_y560_pending sync_3.2.1.pending.length c_y560_pending), (Value.int .i64 sync_3.2.1.left), (Value.bool sync_3.2.1.stopped)].toArray 25), (some b220, Obj.cells [(Value.slice a_y231_records sync_1.1.records.length c_y231_records), (Value.int .i64 sync_1.1.many), (Value.int .i64 sync_1.1.synced)].toArray 52)] O) hx722
               clear hx722
               replace f_y231_records := f_y231_records.step p725; replace f_y560_sectors := f_y560_sectors.step p725; replace f_y560_pending := f_y560_pending.step p725; replace f_y563_records := f_y563_records.step p725; replace f_y611_records := f_y611_records.step p725; replace f_y612_sectors := f_y612_sectors.step p725; replace f_y612_pending := f_y612_pending.step p725; replace f_y642_records := f_y642_records.step p725; replace f_y665_records := f_y665_records.step p725; replace ch685 := ch685.trans p725; clear p725 hs715
               obtain rfl := h723
               refine Rg_op rfl (op_pick_t (v := (Value.bool samerecords_2)) rfl rfl ?_)
               refine Rg_op rfl (op_move (v := (Value.bool samerecords_2)) rfl ?_)
               refine Rg_case (fun hg727 => ?_) (fun hg727 => ?_)
               ·
                replace hm := bif_t hm hg727
                refine Rg_opg rfl rfl rfl (op_loadA (cs := [(Value.slice a_y560_sectors sync_3.2.1.sectors.length c_y560_sectors), (Value.slice a_y560_pending sync_3.2.1.pending.length c_y560_pending), (Value.int .i64 sync_3.2.1.left), (Value.bool sync_3.2.1.stopped)]) (vs := [(Value.slice a_y560_sectors sync_3.2.1.sectors.length c_y560_sectors), (Value.slice a_y560_pending sync_3.2.1.pending.length c_y560_pending), (Value.int .i64 sync_3.2.1.left), (Value.bool sync_3.2.1.stopped)]) (i := 5) ty25 hs724 rfl rfl rfl rfl ?_)
                refine Rg_opg rfl rfl rfl (op_loadA (cs := [(Value.slice a_y612_sectors sync_4.2.1.sectors.length c_y612_sectors), (Value.slice a_y612_pending sync_4.2.1.pending.length c_y612_pending), (Value.int .i64 sync_4.2.1.left), (Value.bool sync_4.2.1.stopped)]) (vs := [(Value.slice a_y612_sectors sync_4.2.1.sectors.length c_y612_sectors), (Value.slice a_y612_pending sync_4.2.1.pending.length c_y612_pending), (Value.int .i64 sync_4.2.1.left), (Value.bool sync_4.2.1.stopped)]) (i := 2) ty25 hs724 rfl rfl rfl rfl ?_)
                replace hm := bd hm; obtain ⟨same_3, hv728, hm⟩ := hm
                refine Rg_opg rfl rfl rfl (op_call Try.call17 (c17_overflightref44_Same (a := sync_3.2.1) (b := sync_4.2.1) hs724.ltw f_y560_sectors f_y560_pending r_y560_left f_y612_sectors f_y612_pending r_y612_left hv728) rfl ?_)
                rintro v729 w730 ⟨hx731, h732⟩
                have hs733 := hs724.call hx731
                have p734 := Step.ext (O := ks [(some b667, Obj.cells [(Value.slice a_y665_records open_3.1.records.length c_y665_records), (Value.int .i64 open_3.1.many), (Value.int .i64 open_3.1.synced)].toArray 52), (some b644, Obj.cells [(Value.slice a_y642_records open_2.1.records.length c_y642_records), (Value.int .i64 open_2.1.many), (Value.int .i64 open_2.1.synced)].toArray 52), (some b619, Obj.cells [(Value.slice a_y612_sectors sync_4.2.1.sectors.length c_y612_sectors), (Value.slice a_y612_pending sync_4.2.1.pending.length c_y612_pending), (Value.int .i64 sync_4.2.1.left), (Value.bool sync_4.2.1.stopped)].toArray 25), (some b614, Obj.cells [(Value.slice a_y611_records sync_4.1.records.length c_y611_records), (Value.int .i64 sync_4.1.many), (Value.int .i64 sync_4.1.synced)].toArray 52), (some b552, Obj.cells [(Value.slice a_y563_records sync_3.1.records.length c_y563_records), (Value.int .i64 sync_3.1.many), (Value.int .i64 sync_3.1.synced)].toArray 52), (some b549, Obj.cells [(Value.slice a_y560_sectors sync_3.2.1.sectors.length c_y560_sectors), (Value.slice a_y560_pending sync_3.2.1.pending.length c_y560_pending), (Value.int .i64 sync_3.2.1.left), (Value.bool sync_3.2.1.stopped)].toArray 25), (some b220, Obj.cells [(Value.slice a_y231_records sync_1.1.records.length c_y231_records), (Value.int .i64 sync_1.1.many), (Value.int .i64 sync_1.1.synced)].toArray 52)] O) hx731
                clear hx731
                replace f_y231_records := f_y231_records.step p734; replace f_y560_sectors := f_y560_sectors.step p734; replace f_y560_pending := f_y560_pending.step p734; replace f_y563_records := f_y563_records.step p734; replace f_y611_records := f_y611_records.step p734; replace f_y612_sectors := f_y612_sectors.step p734; replace f_y612_pending := f_y612_pending.step p734; replace f_y642_records := f_y642_records.step p734; replace f_y665_records := f_y665_records.step p734; replace ch685 := ch685.trans p734; clear p734 hs724
                obtain rfl := h732
                refine Rg_op rfl (op_pick_t (v := (Value.bool same_3)) rfl rfl ?_)
                refine Rg_op rfl (op_assign (v := (Value.bool same_3)) rfl ?_)
                refine Rg_nil ?_
                exact hK679 _ _ ⟨same_3, _, rfl, ⟨(by repeat (first | with_reducible exact Out.refl _ _ | refine Out.upd ?_ rfl | refine Out.updL ?_ rfl | refine Out.mix' ?_ rfl | exact Out.refl _ _)), rfl, rfl, trivial⟩, ch685, hs733, hm⟩
               ·
                replace hm := bif_f hm hg727
                iterate 3 refine Rg_opx rfl (asB_ne rfl rfl) rfl ?_
                refine Rg_op rfl (op_pick_f (v := (Value.bool false)) rfl rfl ?_)
                refine Rg_op rfl (op_assign (v := (Value.bool false)) rfl ?_)
                refine Rg_nil ?_
                exact hK679 _ _ ⟨false, _, rfl, ⟨(by repeat (first | with_reducible exact Out.refl _ _ | refine Out.upd ?_ rfl | refine Out.updL ?_ rfl | refine Out.mix' ?_ rfl | exact Out.refl _ _)), rfl, rfl, trivial⟩, ch685, hs724, hm⟩
              ·
               replace hm := bif_f hm hg718
               iterate 5 refine Rg_opx rfl (asB_ne rfl rfl) rfl ?_
               refine Rg_op rfl (op_pick_f (v := (Value.bool false)) rfl rfl ?_)
               refine Rg_op rfl (op_move (v := (Value.bool false)) rfl ?_)
               iterate 3 refine Rg_opx rfl (asB_ne rfl rfl) rfl ?_
               refine Rg_op rfl (op_pick_f (v := (Value.bool false)) rfl rfl ?_)
               refine Rg_op rfl (op_assign (v := (Value.bool false)) rfl ?_)
               refine Rg_nil ?_
               exact hK679 _ _ ⟨false, _, rfl, ⟨(by repeat (first | with_reducible exact Out.refl _ _ | refine Out.upd ?_ rfl | refine Out.updL ?_ rfl | refine Out.mix' ?_ rfl | exact Out.refl _ _)), rfl, rfl, trivial⟩, ch685, hs715, hm⟩
             ·
              replace hm := bif_f hm hg709
              iterate 5 refine Rg_opx rfl (asB_ne rfl rfl) rfl ?_
              refine Rg_op rfl (op_pick_f (v := (Value.bool false)) rfl rfl ?_)
              refine Rg_op rfl (op_move (v := (Value.bool false)) rfl ?_)
              iterate 5 refine Rg_opx rfl (asB_ne rfl rfl) rfl ?_
              refine Rg_op rfl (op_pick_f (v := (Value.bool false)) rfl rfl ?_)
              refine Rg_op rfl (op_move (v := (Value.bool false)) rfl ?_)
              iterate 3 refine Rg_opx rfl (asB_ne rfl rfl) rfl ?_
              refine Rg_op rfl (op_pick_f (v := (Value.bool false)) rfl rfl ?_)
              refine Rg_op rfl (op_assign (v := (Value.bool false)) rfl ?_)
              refine Rg_nil ?_
              exact hK679 _ _ ⟨false, _, rfl, ⟨(by repeat (first | with_reducible exact Out.refl _ _ | refine Out.upd ?_ rfl | refine Out.updL ?_ rfl | refine Out.mix' ?_ rfl | exact Out.refl _ _)), rfl, rfl, trivial⟩, ch685, hs706, hm⟩
            ·
             replace hm := bif_f hm hg700
             iterate 3 refine Rg_opx rfl (asB_ne rfl rfl) rfl ?_
             refine Rg_op rfl (op_pick_f (v := (Value.bool false)) rfl rfl ?_)
             refine Rg_op rfl (op_move (v := (Value.bool false)) rfl ?_)
             iterate 5 refine Rg_opx rfl (asB_ne rfl rfl) rfl ?_
             refine Rg_op rfl (op_pick_f (v := (Value.bool false)) rfl rfl ?_)
             refine Rg_op rfl (op_move (v := (Value.bool false)) rfl ?_)
             iterate 5 refine Rg_opx rfl (asB_ne rfl rfl) rfl ?_
             refine Rg_op rfl (op_pick_f (v := (Value.bool false)) rfl rfl ?_)
             refine Rg_op rfl (op_move (v := (Value.bool false)) rfl ?_)
             iterate 3 refine Rg_opx rfl (asB_ne rfl rfl) rfl ?_
             refine Rg_op rfl (op_pick_f (v := (Value.bool false)) rfl rfl ?_)
             refine Rg_op rfl (op_assign (v := (Value.bool false)) rfl ?_)
             refine Rg_nil ?_
             exact hK679 _ _ ⟨false, _, rfl, ⟨(by repeat (first | with_reducible exact Out.refl _ _ | refine Out.upd ?_ rfl | refine Out.updL ?_ rfl | refine Out.mix' ?_ rfl | exact Out.refl _ _)), rfl, rfl, trivial⟩, ch685, hs697, hm⟩
           ·
            replace hm := bif_f hm hg691
            iterate 3 refine Rg_opx rfl (asB_ne rfl rfl) rfl ?_
            refine Rg_op rfl (op_pick_f (v := (Value.bool false)) rfl rfl ?_)
            refine Rg_op rfl (op_move (v := (Value.bool false)) rfl ?_)
            iterate 3 refine Rg_opx rfl (asB_ne rfl rfl) rfl ?_
            refine Rg_op rfl (op_pick_f (v := (Value.bool false)) rfl rfl ?_)
            refine Rg_op rfl (op_move (v := (Value.bool false)) rfl ?_)
            iterate 5 refine Rg_opx rfl (asB_ne rfl rfl) rfl ?_
            refine Rg_op rfl (op_pick_f (v := (Value.bool false)) rfl rfl ?_)
            refine Rg_op rfl (op_move (v := (Value.bool false)) rfl ?_)
            iterate 5 refine Rg_opx rfl (asB_ne rfl rfl) rfl ?_
            refine Rg_op rfl (op_pick_f (v := (Value.bool false)) rfl rfl ?_)
            refine Rg_op rfl (op_move (v := (Value.bool false)) rfl ?_)
            iterate 3 refine Rg_opx rfl (asB_ne rfl rfl) rfl ?_
            refine Rg_op rfl (op_pick_f (v := (Value.bool false)) rfl rfl ?_)
            refine Rg_op rfl (op_assign (v := (Value.bool false)) rfl ?_)
            refine Rg_nil ?_
            exact hK679 _ _ ⟨false, _, rfl, ⟨(by repeat (first | with_reducible exact Out.refl _ _ | refine Out.upd ?_ rfl | refine Out.updL ?_ rfl | refine Out.mix' ?_ rfl | exact Out.refl _ _)), rfl, rfl, trivial⟩, ch685, hs674, hm⟩
          ·
           replace hm := bif_f hm hg690
           iterate 2 refine Rg_opx rfl (asB_ne rfl rfl) rfl ?_
           refine Rg_op rfl (op_pick_f (v := (Value.bool false)) rfl rfl ?_)
           refine Rg_op rfl (op_move (v := (Value.bool false)) rfl ?_)
           iterate 3 refine Rg_opx rfl (asB_ne rfl rfl) rfl ?_
           refine Rg_op rfl (op_pick_f (v := (Value.bool false)) rfl rfl ?_)
           refine Rg_op rfl (op_move (v := (Value.bool false)) rfl ?_)
           iterate 3 refine Rg_opx rfl (asB_ne rfl rfl) rfl ?_
           refine Rg_op rfl (op_pick_f (v := (Value.bool false)) rfl rfl ?_)
           refine Rg_op rfl (op_move (v := (Value.bool false)) rfl ?_)
           iterate 5 refine Rg_opx rfl (asB_ne rfl rfl) rfl ?_
           refine Rg_op rfl (op_pick_f (v := (Value.bool false)) rfl rfl ?_)
           refine Rg_op rfl (op_move (v := (Value.bool false)) rfl ?_)
           iterate 5 refine Rg_opx rfl (asB_ne rfl rfl) rfl ?_
           refine Rg_op rfl (op_pick_f (v := (Value.bool false)) rfl rfl ?_)
           refine Rg_op rfl (op_move (v := (Value.bool false)) rfl ?_)
           iterate 3 refine Rg_opx rfl (asB_ne rfl rfl) rfl ?_
           refine Rg_op rfl (op_pick_f (v := (Value.bool false)) rfl rfl ?_)
           refine Rg_op rfl (op_assign (v := (Value.bool false)) rfl ?_)
           refine Rg_nil ?_
           exact hK679 _ _ ⟨false, _, rfl, ⟨(by repeat (first | with_reducible exact Out.refl _ _ | refine Out.upd ?_ rfl | refine Out.updL ?_ rfl | refine Out.mix' ?_ rfl | exact Out.refl _ _)), rfl, rfl, trivial⟩, ch685, hs674, hm⟩
         ·
          replace hm := bif_f hm hg689
          iterate 2 refine Rg_opx rfl (asB_ne rfl rfl) rfl ?_
          refine Rg_op rfl (op_pick_f (v := (Value.bool false)) rfl rfl ?_)
          refine Rg_op rfl (op_move (v := (Value.bool false)) rfl ?_)
          iterate 2 refine Rg_opx rfl (asB_ne rfl rfl) rfl ?_
          refine Rg_op rfl (op_pick_f (v := (Value.bool false)) rfl rfl ?_)
          refine Rg_op rfl (op_move (v := (Value.bool false)) rfl ?_)
          iterate 3 refine Rg_opx rfl (asB_ne rfl rfl) rfl ?_
          refine Rg_op rfl (op_pick_f (v := (Value.bool false)) rfl rfl ?_)
          refine Rg_op rfl (op_move (v := (Value.bool false)) rfl ?_)
          iterate 3 refine Rg_opx rfl (asB_ne rfl rfl) rfl ?_
          refine Rg_op rfl (op_pick_f (v := (Value.bool false)) rfl rfl ?_)
          refine Rg_op rfl (op_move (v := (Value.bool false)) rfl ?_)
          iterate 5 refine Rg_opx rfl (asB_ne rfl rfl) rfl ?_
          refine Rg_op rfl (op_pick_f (v := (Value.bool false)) rfl rfl ?_)
          refine Rg_op rfl (op_move (v := (Value.bool false)) rfl ?_)
          iterate 5 refine Rg_opx rfl (asB_ne rfl rfl) rfl ?_
          refine Rg_op rfl (op_pick_f (v := (Value.bool false)) rfl rfl ?_)
          refine Rg_op rfl (op_move (v := (Value.bool false)) rfl ?_)
          iterate 3 refine Rg_opx rfl (asB_ne rfl rfl) rfl ?_
          refine Rg_op rfl (op_pick_f (v := (Value.bool false)) rfl rfl ?_)
          refine Rg_op rfl (op_assign (v := (Value.bool false)) rfl ?_)
          refine Rg_nil ?_
          exact hK679 _ _ ⟨false, _, rfl, ⟨(by repeat (first | with_reducible exact Out.refl _ _ | refine Out.upd ?_ rfl | refine Out.updL ?_ rfl | refine Out.mix' ?_ rfl | exact Out.refl _ _)), rfl, rfl, trivial⟩, ch685, hs674, hm⟩
        ·
         replace hm := bif_f hm hg688
         iterate 2 refine Rg_opx rfl (asB_ne rfl rfl) rfl ?_
         refine Rg_op rfl (op_pick_f (v := (Value.bool false)) rfl rfl ?_)
         refine Rg_op rfl (op_move (v := (Value.bool false)) rfl ?_)
         iterate 2 refine Rg_opx rfl (asB_ne rfl rfl) rfl ?_
         refine Rg_op rfl (op_pick_f (v := (Value.bool false)) rfl rfl ?_)
         refine Rg_op rfl (op_move (v := (Value.bool false)) rfl ?_)
         iterate 2 refine Rg_opx rfl (asB_ne rfl rfl) rfl ?_
         refine Rg_op rfl (op_pick_f (v := (Value.bool false)) rfl rfl ?_)
         refine Rg_op rfl (op_move (v := (Value.bool false)) rfl ?_)
         iterate 3 refine Rg_opx rfl (asB_ne rfl rfl) rfl ?_
         refine Rg_op rfl (op_pick_f (v := (Value.bool false)) rfl rfl ?_)
         refine Rg_op rfl (op_move (v := (Value.bool false)) rfl ?_)
         iterate 3 refine Rg_opx rfl (asB_ne rfl rfl) rfl ?_
         refine Rg_op rfl (op_pick_f (v := (Value.bool false)) rfl rfl ?_)
         refine Rg_op rfl (op_move (v := (Value.bool false)) rfl ?_)
         iterate 5 refine Rg_opx rfl (asB_ne rfl rfl) rfl ?_
         refine Rg_op rfl (op_pick_f (v := (Value.bool false)) rfl rfl ?_)
         refine Rg_op rfl (op_move (v := (Value.bool false)) rfl ?_)
         iterate 5 refine Rg_opx rfl (asB_ne rfl rfl) rfl ?_
         refine Rg_op rfl (op_pick_f (v := (Value.bool false)) rfl rfl ?_)
         refine Rg_op rfl (op_move (v := (Value.bool false)) rfl ?_)
         iterate 3 refine Rg_opx rfl (asB_ne rfl rfl) rfl ?_
         refine Rg_op rfl (op_pick_f (v := (Value.bool false)) rfl rfl ?_)
         refine Rg_op rfl (op_assign (v := (Value.bool false)) rfl ?_)
         refine Rg_nil ?_
         exact hK679 _ _ ⟨false, _, rfl, ⟨(by repeat (first | with_reducible exact Out.refl _ _ | refine Out.upd ?_ rfl | refine Out.updL ?_ rfl | refine Out.mix' ?_ rfl | exact Out.refl _ _)), rfl, rfl, trivial⟩, ch685, hs674, hm⟩
       ·
        replace hm := bif_f hm hg687
        iterate 2 refine Rg_opx rfl (asB_ne rfl rfl) rfl ?_
        refine Rg_op rfl (op_pick_f (v := (Value.bool false)) rfl rfl ?_)
        refine Rg_op rfl (op_move (v := (Value.bool false)) rfl ?_)
        iterate 2 refine Rg_opx rfl (asB_ne rfl rfl) rfl ?_
        refine Rg_op rfl (op_pick_f (v := (Value.bool false)) rfl rfl ?_)
        refine Rg_op rfl (op_move (v := (Value.bool false)) rfl ?_)
        iterate 2 refine Rg_opx rfl (asB_ne rfl rfl) rfl ?_
        refine Rg_op rfl (op_pick_f (v := (Value.bool false)) rfl rfl ?_)
        refine Rg_op rfl (op_move (v := (Value.bool false)) rfl ?_)
        iterate 2 refine Rg_opx rfl (asB_ne rfl rfl) rfl ?_
        refine Rg_op rfl (op_pick_f (v := (Value.bool false)) rfl rfl ?_)
        refine Rg_op rfl (op_move (v := (Value.bool false)) rfl ?_)
        iterate 3 refine Rg_opx rfl (asB_ne rfl rfl) rfl ?_
        refine Rg_op rfl (op_pick_f (v := (Value.bool false)) rfl rfl ?_)
        refine Rg_op rfl (op_move (v := (Value.bool false)) rfl ?_)
        iterate 3 refine Rg_opx rfl (asB_ne rfl rfl) rfl ?_
        refine Rg_op rfl (op_pick_f (v := (Value.bool false)) rfl rfl ?_)
        refine Rg_op rfl (op_move (v := (Value.bool false)) rfl ?_)
        iterate 5 refine Rg_opx rfl (asB_ne rfl rfl) rfl ?_
        refine Rg_op rfl (op_pick_f (v := (Value.bool false)) rfl rfl ?_)
        refine Rg_op rfl (op_move (v := (Value.bool false)) rfl ?_)
        iterate 5 refine Rg_opx rfl (asB_ne rfl rfl) rfl ?_
        refine Rg_op rfl (op_pick_f (v := (Value.bool false)) rfl rfl ?_)
        refine Rg_op rfl (op_move (v := (Value.bool false)) rfl ?_)
        iterate 3 refine Rg_opx rfl (asB_ne rfl rfl) rfl ?_
        refine Rg_op rfl (op_pick_f (v := (Value.bool false)) rfl rfl ?_)
        refine Rg_op rfl (op_assign (v := (Value.bool false)) rfl ?_)
        refine Rg_nil ?_
        exact hK679 _ _ ⟨false, _, rfl, ⟨(by repeat (first | with_reducible exact Out.refl _ _ | refine Out.upd ?_ rfl | refine Out.updL ?_ rfl | refine Out.mix' ?_ rfl | exact Out.refl _ _)), rfl, rfl, trivial⟩, ch685, hs674, hm⟩
      ·
       replace hm := bif_f hm hg686
       iterate 2 refine Rg_opx rfl (asB_ne rfl rfl) rfl ?_
       refine Rg_op rfl (op_pick_f (v := (Value.bool false)) rfl rfl ?_)
       refine Rg_op rfl (op_move (v := (Value.bool false)) rfl ?_)
       iterate 2 refine Rg_opx rfl (asB_ne rfl rfl) rfl ?_
       refine Rg_op rfl (op_pick_f (v := (Value.bool false)) rfl rfl ?_)
       refine Rg_op rfl (op_move (v := (Value.bool false)) rfl ?_)
       iterate 2 refine Rg_opx rfl (asB_ne rfl rfl) rfl ?_
       refine Rg_op rfl (op_pick_f (v := (Value.bool false)) rfl rfl ?_)
       refine Rg_op rfl (op_move (v := (Value.bool false)) rfl ?_)
       iterate 2 refine Rg_opx rfl (asB_ne rfl rfl) rfl ?_
       refine Rg_op rfl (op_pick_f (v := (Value.bool false)) rfl rfl ?_)
       refine Rg_op rfl (op_move (v := (Value.bool false)) rfl ?_)
       iterate 2 refine Rg_opx rfl (asB_ne rfl rfl) rfl ?_
       refine Rg_op rfl (op_pick_f (v := (Value.bool false)) rfl rfl ?_)
       refine Rg_op rfl (op_move (v := (Value.bool false)) rfl ?_)
       iterate 3 refine Rg_opx rfl (asB_ne rfl rfl) rfl ?_
       refine Rg_op rfl (op_pick_f (v := (Value.bool false)) rfl rfl ?_)
       refine Rg_op rfl (op_move (v := (Value.bool false)) rfl ?_)
       iterate 3 refine Rg_opx rfl (asB_ne rfl rfl) rfl ?_
       refine Rg_op rfl (op_pick_f (v := (Value.bool false)) rfl rfl ?_)
       refine Rg_op rfl (op_move (v := (Value.bool false)) rfl ?_)
       iterate 5 refine Rg_opx rfl (asB_ne rfl rfl) rfl ?_
       refine Rg_op rfl (op_pick_f (v := (Value.bool false)) rfl rfl ?_)
       refine Rg_op rfl (op_move (v := (Value.bool false)) rfl ?_)
       iterate 5 refine Rg_opx rfl (asB_ne rfl rfl) rfl ?_
       refine Rg_op rfl (op_pick_f (v := (Value.bool false)) rfl rfl ?_)
       refine Rg_op rfl (op_move (v := (Value.bool false)) rfl ?_)
       iterate 3 refine Rg_opx rfl (asB_ne rfl rfl) rfl ?_
       refine Rg_op rfl (op_pick_f (v := (Value.bool false)) rfl rfl ?_)
       refine Rg_op rfl (op_assign (v := (Value.bool false)) rfl ?_)
       refine Rg_nil ?_
       exact hK679 _ _ ⟨false, _, rfl, ⟨(by repeat (first | with_reducible exact Out.refl _ _ | refine Out.upd ?_ rfl | refine Out.updL ?_ rfl | refine Out.mix' ?_ rfl | exact Out.refl _ _)), rfl, rfl, trivial⟩, ch685, hs674, hm⟩
  ·
   intro K35 hK35
   have ch736 := Step.refl (ks [(some b23, Obj.cells [(Value.slice a_y21_sectors new_1.1.sectors.length c_y21_sectors), (Value.slice a_y21_pending new_1.1.pending.length c_y21_pending), (Value.int .i64 new_1.1.left), (Value.bool new_1.1.stopped)].toArray 25)] O) w28
   refine Wp_drawR (g0 := ([], [])) (m := 9) (fl := []) (TX_inv (eat := (fun t : Nat => if t = 4 then 6 else if t = 6 then 8 else 1000)) hs30) rfl (.inl rfl) rfl (by decide +kernel) ?_  -- 4
   refine Dw_eq (Value.int .i64 new_1.2) (fun ρ737 w738 g hle hi ht => ?_) ?_
   ·
    obtain ⟨-, hst, -⟩ := hle
    obtain ⟨hi, hi2⟩ := hi
    refine StepOp_plain (op_move (v := (Value.int .i64 new_1.2)) (ht 6 rfl) ?_)
    exact GoesX.same hi hi2 rfl
   refine Dw_eq (Value.bool (decide (new_1.2 ≠ 0))) (fun ρ740 w741 g hle hi ht => ?_) ?_
   ·
    obtain ⟨-, hst, -⟩ := hle
    obtain ⟨hi, hi2⟩ := hi
    refine StepOp_plain (op_neq (ht 32 rfl) rfl ?_)
    exact GoesX.same hi hi2 rfl
   refine Dw_opB (decide (new_1.2 ≠ 0)) (fun ρ743 w744 g hle hi ht => ?_) (fun hg746 => ?_) (fun hg746 => ?_)
   ·
    obtain ⟨-, hst, -⟩ := hle
    obtain ⟨hi, hi2⟩ := hi
    refine StepOp_plain (op_move (v := (Value.bool (decide (new_1.2 ≠ 0)))) (ht 33 rfl) ?_)
    exact GoesX.same hi hi2 rfl
   ·
    replace hm := bif_t hm hg746
    refine Dw_skip (fun _ _ _ ht => wanted_x rfl (ht 34 rfl) rfl) ?_
    refine Dw_skip (fun _ _ _ ht => wanted_x rfl (ht 34 rfl) rfl) ?_
    refine Dw_skip (fun _ _ _ ht => wanted_x rfl (ht 34 rfl) rfl) ?_
    refine Dw_skip (fun _ _ _ ht => wanted_x rfl (ht 34 rfl) rfl) ?_
    refine Dw_skip (fun _ _ _ ht => wanted_x rfl (ht 34 rfl) rfl) ?_
    refine Dw_skip (fun _ _ _ ht => wanted_x rfl (ht 34 rfl) rfl) ?_
    refine Dw_nil fun w751 g752 hl753 hi754 => ?_
    obtain ⟨-, hst755, -⟩ := hl753
    obtain ⟨hi754, hi758⟩ := hi754
    obtain ⟨hs757, p756⟩ := Step.nxX hi754
    rintro _ rfl
    rintro _ rfl
    rintro _ rfl
    rintro _ rfl
    rintro _ rfl
    rintro _ rfl
    rintro _ rfl
    rintro _ rfl
    rintro _ rfl
    have p759 : Step (ks [(some b23, Obj.cells [(Value.slice a_y21_sectors new_1.1.sectors.length c_y21_sectors), (Value.slice a_y21_pending new_1.1.pending.length c_y21_pending), (Value.int .i64 new_1.1.left), (Value.bool new_1.1.stopped)].toArray 25)] O) w28 (ks [(some b23, Obj.cells [(Value.slice a_y21_sectors new_1.1.sectors.length c_y21_sectors), (Value.slice a_y21_pending new_1.1.pending.length c_y21_pending), (Value.int .i64 new_1.1.left), (Value.bool new_1.1.stopped)].toArray 25)] O) w751 := hst755.trans p756
    replace f_a := f_a.step p759; replace f_b := f_b.step p759; replace f_y21_sectors := f_y21_sectors.step p759; replace f_y21_pending := f_y21_pending.step p759; replace ch736 := ch736.trans p759; clear p759 hs30
    iterate 2 refine Rg_opx rfl (asB_ne rfl rfl) rfl ?_
    refine Rg_op rfl (op_pick_t (v := (Value.bool true)) rfl rfl ?_)
    refine Rg_nil ?_
    exact hK35 _ _ ⟨true, _, rfl, ⟨(by repeat (first | with_reducible exact Out.refl _ _ | refine Out.upd ?_ rfl | refine Out.updL ?_ rfl | refine Out.mix' ?_ rfl | exact Out.refl _ _)), rfl, rfl, trivial⟩, ch736, hs757, hm⟩
   ·
    replace hm := bif_f hm hg746
    refine Dw_eq (Value.agg [(Value.slice a_y21_sectors new_1.1.sectors.length c_y21_sectors), (Value.slice a_y21_pending new_1.1.pending.length c_y21_pending), (Value.int .i64 new_1.1.left), (Value.bool new_1.1.stopped)].toArray) (fun ρ760 w761 g hle hi ht => ?_) ?_
    ·
     obtain ⟨-, hst, -⟩ := hle
     obtain ⟨hi, hi2⟩ := hi
     have hsn := (Step.nxX hi).1
     refine StepOp_g rfl (ht 34 rfl) (op_loadA (cs := [(Value.slice a_y21_sectors new_1.1.sectors.length c_y21_sectors), (Value.slice a_y21_pending new_1.1.pending.length c_y21_pending), (Value.int .i64 new_1.1.left), (Value.bool new_1.1.stopped)]) (vs := [(Value.slice a_y21_sectors new_1.1.sectors.length c_y21_sectors), (Value.slice a_y21_pending new_1.1.pending.length c_y21_pending), (Value.int .i64 new_1.1.left), (Value.bool new_1.1.stopped)]) (i := 0) ty25 hsn (ht 5 rfl) rfl rfl rfl ?_)
     exact GoesX.same hi hi2 rfl
    refine Dw_opN (XG O [(some b23, Obj.cells [(Value.slice a_y21_sectors new_1.1.sectors.length c_y21_sectors), (Value.slice a_y21_pending new_1.1.pending.length c_y21_pending), (Value.int .i64 new_1.1.left), (Value.bool new_1.1.stopped)].toArray 25)] (fun t : Nat => if t = 4 then 6 else if t = 6 then 8 else 1000) 4 (rSl rU8) 41 ([] : List (List UInt8))) (XG.stab _ _ _ _) (fun ρ763 w764 g hle hi hk ht => ?_) ?_
    ·
     obtain ⟨-, hst, -⟩ := hle
     obtain ⟨hi, hi2⟩ := hi
     replace f_a := f_a.step hst; replace f_b := f_b.step hst; replace f_y21_sectors := f_y21_sectors.step hst; replace f_y21_pending := f_y21_pending.step hst
     refine StepOp_g rfl (ht 34 rfl) (op_buildSlice (cs := []) (parts := []) ty22 ty41 hi (by decide) (by simp only [List.map]; rfl) ?_)
     intro b766 w767 hx770 p768 hs769
     replace f_a := f_a.step p768; replace f_b := f_b.step p768; replace f_y21_sectors := f_y21_sectors.step p768; replace f_y21_pending := f_y21_pending.step p768
     exact GoesX.own (xs := ([] : List (List UInt8))) hi2 p768 hs769 (Gs.of_cells (p := (rSl rU8)) (e := 41) (bl := b766) (c := 0) (show Els (rSl rU8) _ _ [] [] from Els.nil) rfl (le_lit rfl)) rfl
    refine Dw_eq (Value.slice a_a a.length c_a) (fun ρ773 w774 g hle hi ht => ?_) ?_
    ·
     obtain ⟨-, hst, -⟩ := hle
     obtain ⟨hi, hi2⟩ := hi
     refine StepOp_g rfl (ht 34 rfl) (op_move (v := (Value.slice a_a a.length c_a)) (ht 0 rfl) ?_)
     exact GoesX.same hi hi2 rfl
    replace hm := ck_some hm; obtain ⟨hc779, hm⟩ := hm
    refine Dw_opN (XG O [(some b23, Obj.cells [(Value.slice a_y21_sectors new_1.1.sectors.length c_y21_sectors), (Value.slice a_y21_pending new_1.1.pending.length c_y21_pending), (Value.int .i64 new_1.1.left), (Value.bool new_1.1.stopped)].toArray 25)] (fun t : Nat => if t = 4 then 6 else if t = 6 then 8 else 1000) 6 (rSl rU8) 41 (([] : List (List UInt8)) ++ a)) (XG.stab _ _ _ _) (fun ρ776 w777 g hle hi hk ht => ?_) ?_
    ·
     obtain ⟨-, hst, -⟩ := hle
     obtain ⟨hi, hi2⟩ := hi
     replace f_a := f_a.step hst
     obtain ⟨ns780, he781, hr782⟩ := f_a.src
     refine StepOp_g rfl (ht 34 rfl) (op_appendX (q := (rSl rU8)) (xs := ([] : List (List UInt8))) (ys := a) (news := ns780) (tag := 4) ty22 ty41 rfl (by decide) hi hi2 hk rfl (le_lit rfl) (ht 36 rfl) (ht 37 rfl) hr782 he781 hc779 (by have := hc779; simp only [maxLen]; omega))
    refine Dw_eq (Value.slice a_b b.length c_b) (fun ρ783 w784 g hle hi ht => ?_) ?_
    ·
     obtain ⟨-, hst, -⟩ := hle
     obtain ⟨hi, hi2⟩ := hi
     refine StepOp_g rfl (ht 34 rfl) (op_move (v := (Value.slice a_b b.length c_b)) (ht 1 rfl) ?_)
     exact GoesX.same hi hi2 rfl
    replace hm := ck_some hm; obtain ⟨hc789, hm⟩ := hm
    refine Dw_opN (XG O [(some b23, Obj.cells [(Value.slice a_y21_sectors new_1.1.sectors.length c_y21_sectors), (Value.slice a_y21_pending new_1.1.pending.length c_y21_pending), (Value.int .i64 new_1.1.left), (Value.bool new_1.1.stopped)].toArray 25)] (fun t : Nat => if t = 4 then 6 else if t = 6 then 8 else 1000) 8 (rSl rU8) 41 ((([] : List (List UInt8)) ++ a) ++ b)) (XG.stab _ _ _ _) (fun ρ786 w787 g hle hi hk ht => ?_) ?_
    ·
     obtain ⟨-, hst, -⟩ := hle
     obtain ⟨hi, hi2⟩ := hi
     replace f_b := f_b.step hst
     obtain ⟨ns790, he791, hr792⟩ := f_b.src
     refine StepOp_g rfl (ht 34 rfl) (op_appendX (q := (rSl rU8)) (xs := (([] : List (List UInt8)) ++ a)) (ys := b) (news := ns790) (tag := 6) ty22 ty41 rfl (by decide) hi hi2 hk rfl (le_lit rfl) (ht 38 rfl) (ht 39 rfl) hr792 he791 hc789 (by have := hc789; simp only [maxLen]; omega))
    refine Dw_nil fun w797 g798 hl799 hi800 => ?_
    obtain ⟨-, hst801, -⟩ := hl799
    obtain ⟨hi800, hi804⟩ := hi800
    rintro v805 hm810
    obtain ⟨a806, c807, k808, o809, rfl, hm810, f811⟩ := hm810.resolve_left (fun h => absurd (hi804 _ h) (by decide))
    rintro _ rfl
    rintro _ -
    rintro _ rfl
    rintro _ -
    rintro _ rfl
    rintro _ rfl
    rintro _ rfl
    rintro _ rfl
    obtain ⟨hs803, p802⟩ := Step.nxX1 hi800 hm810; clear hm810
    have p813 : Step (ks [(some b23, Obj.cells [(Value.slice a_y21_sectors new_1.1.sectors.length c_y21_sectors), (Value.slice a_y21_pending new_1.1.pending.length c_y21_pending), (Value.int .i64 new_1.1.left), (Value.bool new_1.1.stopped)].toArray 25)] O) w28 (ks [(k808, o809), (some b23, Obj.cells [(Value.slice a_y21_sectors new_1.1.sectors.length c_y21_sectors), (Value.slice a_y21_pending new_1.1.pending.length c_y21_pending), (Value.int .i64 new_1.1.left), (Value.bool new_1.1.stopped)].toArray 25)] O) w797 := hst801.trans p802
    replace f811 := f811.step p802; replace f_a := f_a.step p813; replace f_b := f_b.step p813; replace f_y21_sectors := f_y21_sectors.step p813; replace f_y21_pending := f_y21_pending.step p813; replace ch736 := ch736.trans p813; clear p813 hs30
    obtain ⟨hs814, p815, f816⟩ := Gs.publish (i := 0) hs803 rfl f811
    replace hm := bd hm; obtain ⟨few_1, hv817, hm⟩ := hm
    refine Rg_opg rfl rfl rfl (op_call Try.call29 (c29_overflightlaw45_few (d := new_1.1) (records := ((([] : List (List UInt8)) ++ a) ++ b)) hs814.ltw (f_y21_sectors.step p815) (f_y21_pending.step p815) r_y21_left f816 hv817) rfl ?_)
    rintro v818 w819 ⟨hx820, h821⟩
    have hs822 := hs803.call hx820
    have p823 := Step.ext (O := ks [(k808, o809), (some b23, Obj.cells [(Value.slice a_y21_sectors new_1.1.sectors.length c_y21_sectors), (Value.slice a_y21_pending new_1.1.pending.length c_y21_pending), (Value.int .i64 new_1.1.left), (Value.bool new_1.1.stopped)].toArray 25)] O) hx820
    clear hx820
    replace f_a := f_a.step p823; replace f_b := f_b.step p823; replace f_y21_sectors := f_y21_sectors.step p823; replace f_y21_pending := f_y21_pending.step p823; replace f811 := f811.step p823; replace ch736 := ch736.trans p823; clear p823 hs803
    obtain rfl := h821
    refine Rg_opg rfl rfl rfl (op_not rfl ?_)
    refine Rg_op rfl (op_pick_f (v := (Value.bool (!few_1))) rfl rfl ?_)
    refine Rg_nil ?_
    have hs825 := hs822.drop 0
    replace f_a := f_a.step (hs822.dropS 0)
    replace f_b := f_b.step (hs822.dropS 0)
    replace f_y21_sectors := f_y21_sectors.step (hs822.dropS 0)
    replace f_y21_pending := f_y21_pending.step (hs822.dropS 0)
    replace f811 := f811.step (hs822.dropS 0)
    replace ch736 := ch736.trans (hs822.dropS 0); clear hs822
    exact hK35 _ _ ⟨(!few_1), _, rfl, ⟨(by repeat (first | with_reducible exact Out.refl _ _ | refine Out.upd ?_ rfl | refine Out.updL ?_ rfl | refine Out.mix' ?_ rfl | exact Out.refl _ _)), rfl, rfl, trivial⟩, ch736, hs825, hm⟩

end Go.Fx



/- What the models of functions compute: loops over lists, checks, meetings. No program in sight. -/
set_option linter.unusedSimpArgs false
set_option linter.unusedVariables false
namespace Go.Fx
open Go Go.RowKit

section
variable {R α σ : Type}
@[simp] theorem jn_eq {κ : Type _} (k : κ) (f : κ → Option R) : jn k f = f k := rfl
theorem ck_eq {c : Prop} [Decidable c] {m : Option R} (h : c) : ck c m = m := if_pos h
@[simp] theorem ck_True {m : Option R} : ck True m = m := if_pos trivial
theorem wrapN {i : Nat} (h : i < 9223372036854775808) : IntKind.i64.wrap (i : Int) = (i : Int) := wrap_i64 (by omega) (by omega)
theorem wrapS {i : Nat} (h : i + 1 < 9223372036854775808) : IntKind.i64.wrap ((i : Int) + 1) = (i : Int) + 1 := wrap_i64 (by omega) (by omega)
/-- a loop that goes up an index over a list: L fuel index state -/
theorem up_list {L : Nat → Int → σ → Option R} (I : Nat → σ → Prop) (F : Nat → List α → σ → Option R) (l : List α) (hl : l.length < 9223372036854775807)
    (hE : ∀ n s, I l.length s → L (n + 1) (l.length : Nat) s = F l.length [] s)
    (hS : ∀ n (i : Nat) s x t, i < l.length → l[i]? = some x → IntKind.i64.wrap ((i : Int) + 1) = (i : Int) + 1 → I i s →
      (∀ s, I (i + 1) s → L n ((i : Int) + 1) s = F (i + 1) t s) → L (n + 1) (i : Int) s = F i (x :: t) s) :
    ∀ (fuel : Nat) s, l.length < fuel → I 0 s → L fuel 0 s = F 0 l s := by
  have main : ∀ (t : List α) (i fuel : Nat) s, l.drop i = t → i ≤ l.length → l.length - i < fuel → I i s → L fuel (i : Int) s = F i t s := by
    intro t
    induction t with
    | nil =>
      intro i fuel s hd hi hf hI
      have : i = l.length := by have := congrArg List.length hd; simp at this; omega
      subst this
      obtain ⟨n, rfl⟩ : ∃ n, fuel = n + 1 := ⟨fuel - 1, by omega⟩
      exact hE n s hI
    | cons x t ih =>
      intro i fuel s hd hi hf hI
      have hlt : i < l.length := by have := congrArg List.length hd; simp at this; omega
      obtain ⟨n, rfl⟩ : ∃ n, fuel = n + 1 := ⟨fuel - 1, by omega⟩
      have hx : l[i]? = some x := by rw [← List.head?_drop, hd]; rfl
      refine hS n i s x t hlt hx (wrapS (by omega)) hI fun s' hI' => (ih (i + 1) n s' ?_ (by omega) (by omega) hI')
      rw [← List.drop_drop, hd]; rfl
  intro fuel s hf hI
  exact main l 0 fuel s rfl (by omega) (by omega) hI

theorem getD_of {l : List α} {i : Nat} {x d : α} (h : l[i]? = some x) : l.getD i d = x := by simp [List.getD, h]

/-- a loop that goes up an index over a list, no state -/
theorem up_list0 {B : (Int → Option R) → Int → Option R} (F : List α → Option R) (l : List α) (hl : l.length < 9223372036854775807)
    (hE : ∀ sf, B sf (l.length : Nat) = F [])
    (hS : ∀ sf (i : Nat) x t, i < l.length → l[i]? = some x → IntKind.i64.wrap ((i : Int) + 1) = (i : Int) + 1 →
      sf ((i : Int) + 1) = F t → B sf (i : Int) = F (x :: t))
    {fuel : Nat} (hf : l.length < fuel) : loop1 B fuel 0 = F l := by
  refine up_list (L := fun n i (_ : Unit) => loop1 B n i) (fun _ _ => True) (fun _ t _ => F t) l hl ?_ ?_ fuel () hf trivial
  · intro n _ _; show loop1 B (n + 1) _ = _; rw [loop1_succ]; exact hE _
  · intro n i _ x t h1 h2 h3 _ ih; show loop1 B (n + 1) _ = _; rw [loop1_succ]; exact hS _ i x t h1 h2 h3 (ih () trivial)
/-- a state first, then the index -/
theorem up_listB {B : (σ → Int → Option R) → σ → Int → Option R} (I : Nat → σ → Prop) (F : Nat → List α → σ → Option R) (l : List α) (hl : l.length < 9223372036854775807)
    (hE : ∀ sf s, I l.length s → B sf s (l.length : Nat) = F l.length [] s)
    (hS : ∀ sf (i : Nat) s x t, i < l.length → l[i]? = some x → IntKind.i64.wrap ((i : Int) + 1) = (i : Int) + 1 → I i s →
      (∀ s, I (i + 1) s → sf s ((i : Int) + 1) = F (i + 1) t s) → B sf s (i : Int) = F i (x :: t) s)
    {fuel : Nat} {s : σ} (hf : l.length < fuel) (hI : I 0 s) : loop2 B fuel s 0 = F 0 l s := by
  refine up_list (L := fun n i s => loop2 B n s i) I F l hl ?_ ?_ fuel s hf hI
  · intro n s h; show loop2 B (n + 1) _ _ = _; rw [loop2_succ]; exact hE _ _ h
  · intro n i s x t h1 h2 h3 h4 ih; show loop2 B (n + 1) _ _ = _; rw [loop2_succ]; exact hS _ i s x t h1 h2 h3 h4 ih

/-- the same, where the answer needs the index -/
theorem up_listI {B : (Int → Option R) → Int → Option R} (F : Nat → List α → Option R) (l : List α) (hl : l.length < 9223372036854775807)
    (hE : ∀ sf, B sf (l.length : Nat) = F l.length [])
    (hS : ∀ sf (i : Nat) x t, i < l.length → l[i]? = some x → IntKind.i64.wrap ((i : Int) + 1) = (i : Int) + 1 →
      sf ((i : Int) + 1) = F (i + 1) t → B sf (i : Int) = F i (x :: t))
    {fuel : Nat} (hf : l.length < fuel) : loop1 B fuel 0 = F 0 l := by
  refine up_list (L := fun n i (_ : Unit) => loop1 B n i) (fun _ _ => True) (fun i t _ => F i t) l hl ?_ ?_ fuel () hf trivial
  · intro n _ _; show loop1 B (n + 1) _ = _; rw [loop1_succ]; exact hE _
  · intro n i _ x t h1 h2 h3 _ ih; show loop1 B (n + 1) _ = _; rw [loop1_succ]; exact hS _ i x t h1 h2 h3 (ih () trivial)
end
end Go.Fx



set_option linter.unusedVariables false
set_option linter.unusedSimpArgs false
set_option maxRecDepth 100000
set_option maxHeartbeats 0
namespace Go.Fx
open Go Go.RowKit Go.Proofs
end Go.Fx



set_option linter.unusedVariables false
set_option linter.unusedSimpArgs false
set_option maxRecDepth 100000
set_option maxHeartbeats 0
namespace Go.Fx
open Go Go.RowKit Go.Proofs
end Go.Fx



set_option linter.unusedVariables false
set_option linter.unusedSimpArgs false
set_option maxRecDepth 100000
set_option maxHeartbeats 0
namespace Go.Fx
open Go Go.RowKit Go.Proofs
end Go.Fx



set_option linter.unusedVariables false
set_option linter.unusedSimpArgs false
set_option maxRecDepth 100000
set_option maxHeartbeats 0
namespace Go.Fx
open Go Go.RowKit Go.Proofs
end Go.Fx



set_option linter.unusedVariables false
set_option linter.unusedSimpArgs false
set_option maxRecDepth 100000
set_option maxHeartbeats 0
namespace Go.Fx
open Go Go.RowKit Go.Proofs
end Go.Fx



/- Chapter 45: what Check, Room and Append compute. -/
set_option linter.unusedSimpArgs false
set_option linter.unusedVariables false
namespace Go.Fx
open Go Go.RowKit
theorem ipos {l n : Nat} (h : n < l) : ((n : Int) < (l : Int)) := by omega
theorem sane45 : m28_overflightlaw45_sane = some true := by kernel_rfl
/-- sectors of a record of so many bytes -/
def secI (n : Int) : Int := max 1 (IntKind.wrap .i64 ((IntKind.wrap .i64 ((IntKind.wrap .i64 (n + 112)) - 1)).tdiv 112))
def usedF : Int → List (List UInt8) → Int
  | s, [] => s
  | s, x :: t => usedF (IntKind.wrap .i64 (s + secI (x.length : Int))) t
theorem m54_eq (b : List UInt8) : m54_journal_sectors b = some (secI (b.length : Int)) := rfl
theorem m55_eq (l : List (List UInt8)) (hl : l.length < 9223372036854775807) : m55_journal_used l = some (usedF 0 l) := by
  unfold m55_journal_used
  refine up_listB (B := m55_journal_used_B0 l) (σ := Int) (fun _ _ => True) (fun _ t s => some (usedF s t)) l hl ?_ ?_ (by omega) trivial
  · intro sf s _; unfold m55_journal_used_B0
    rw [decide_eq_false (Int.lt_irrefl _)]; rfl
  · intro sf i s x t h1 h2 h3 _ ih
    unfold m55_journal_used_B0
    have g1 : l.getD (i : Int).toNat default = x := getD_of h2
    rw [decide_eq_true (ipos h1), cond_true, ck_eq (by omega), g1, m54_eq, Option.bind_some, h3, ih _ trivial]; rfl
/-- what Check looks for -/
def badJ (l : XJournal) : Bool := decide (l.many < 1) || (decide (4096 < l.many) || (decide (l.synced < 0) || (decide ((l.records.length : Int) < l.synced) || decide (l.many < usedF 0 l.records))))
theorem m32_eq (l : XJournal) (hl : l.records.length < 9223372036854775807) : m32_journal_Check l = some (bif badJ l then 1 else 0) := by
  unfold m32_journal_Check badJ
  simp only [jn_eq]
  rw [m55_eq _ hl, Option.bind_some]
  cases decide (l.many < 1) <;> cases decide (4096 < l.many) <;> cases decide (l.synced < 0) <;> cases decide ((l.records.length : Int) < l.synced) <;> cases decide (l.many < usedF 0 l.records) <;> rfl
def appJ (l : XJournal) (b : List UInt8) : XJournal × Int :=
  bif badJ l then (⟨[], 0, 0⟩, 1) else bif decide ((IntKind.wrap .i64 (l.many - usedF 0 l.records)) < secI (b.length : Int)) then (⟨[], 0, 0⟩, 2) else (⟨l.records ++ [b], l.many, l.synced⟩, 0)
theorem m56_eq (s : List (List UInt8)) : m56_slices_Clipbyte_byte_ s = some s := by
  unfold m56_slices_Clipbyte_byte_
  rw [ck_eq (by omega), List.drop_zero, Nat.sub_zero, List.take_length]
theorem m52_eq (s : List UInt8) (h : s.length ≤ 140737488351232) : m52_slices_Clonebyte_byte_ s = some s := by
  unfold m52_slices_Clonebyte_byte_
  rw [ck_eq (by simp; omega)]; rfl
theorem m30_eq (l : XJournal) (b : List UInt8) (hl : l.records.length * 24 ≤ 140737488351232) (hb : b.length ≤ 140737488351232) : m30_journal_Append l b = some (appJ l b) := by
  unfold m30_journal_Append appJ
  rw [m32_eq l (by omega), m54_eq, m55_eq _ (by omega), m56_eq, m52_eq b hb]
  cases badJ l
  · simp only [Option.bind_some, cond_false, ne_eq, not_true_eq_false, decide_false]
    cases decide ((IntKind.wrap .i64 (l.many - usedF 0 l.records)) < secI (b.length : Int))
    · rw [cond_false, cond_false, ck_eq (by simp; omega)]
    · rfl
  · rfl
theorem m37_eq (a b : List (List UInt8)) (ha : a.length < 9223372036854775807) : m37_overflightref45_SameRecords a b = some (decide (a = b)) := by
  unfold m37_overflightref45_SameRecords
  by_cases hl : a.length = b.length
  · rw [decide_eq_false (show ¬ ((a.length : Int) ≠ b.length) by omega), cond_false]
    refine (up_listI (B := m37_overflightref45_SameRecords_B0 a b) (fun i t => some (decide (t = b.drop i))) a ha ?_ ?_ (by omega)).trans (by simp)
    · intro sf; unfold m37_overflightref45_SameRecords_B0
      rw [decide_eq_false (Int.lt_irrefl _), cond_false, hl, List.drop_length]; rfl
    · intro sf i x t h1 h2 h3 ih
      obtain ⟨_, rfl⟩ := List.getElem?_eq_some_iff.1 h2
      unfold m37_overflightref45_SameRecords_B0
      have g1 : a.getD (i : Int).toNat default = a[i] := by simp [h1]
      have hb' : i < b.length := by omega
      have g2 : b.getD (i : Int).toNat default = b[i] := by simp [hb']
      rw [decide_eq_true (ipos h1), cond_true, ck_eq (by omega), ck_eq (by omega), g1, g2, h3, ih, List.drop_eq_getElem_cons hb']
      by_cases e : a[i] = b[i]
      · rw [decide_eq_false (fun h => h e), cond_false, e]
        congr 1
        rw [Bool.eq_iff_iff, decide_eq_true_iff, decide_eq_true_iff]
        constructor
        · rintro rfl; rfl
        · intro h; exact (List.cons.inj h).2
      · rw [decide_eq_true e, cond_true, decide_eq_false]
        intro h; exact e (List.cons.inj h).1
  · rw [decide_eq_true (show (a.length : Int) ≠ b.length by omega), cond_true, decide_eq_false (fun e => hl (by rw [e]))]
theorem m36_refl (a : XJournal) (ha : a.records.length < 9223372036854775807) : m36_overflightref45_Same a a = some true := by
  unfold m36_overflightref45_Same
  rw [m37_eq _ _ ha]; simp
def sumF : Int → List (List UInt8) → Int
  | s, [] => s
  | s, x :: t => sumF (IntKind.wrap .i64 (s + IntKind.wrap .i64 (1 + (x.length : Int)))) t
def fewJ (d : XDisk) (records : List (List UInt8)) : Bool := decide ((d.sectors.length : Int) ≤ 40) && (decide ((d.pending.length : Int) ≤ 40) && decide (sumF 0 records ≤ 4000))
theorem m29_eq (d : XDisk) (l : List (List UInt8)) (hl : l.length < 9223372036854775807) : m29_overflightlaw45_few d l = some (fewJ d l) := by
  unfold m29_overflightlaw45_few fewJ
  refine up_listB (B := m29_overflightlaw45_few_B0 d l) (σ := Int) (fun _ _ => True) (fun _ t s => some (decide ((d.sectors.length : Int) ≤ 40) && (decide ((d.pending.length : Int) ≤ 40) && decide (sumF s t ≤ 4000)))) l hl ?_ ?_ (by omega) trivial
  · intro sf s _; unfold m29_overflightlaw45_few_B0
    rw [decide_eq_false (Int.lt_irrefl _), cond_false]
    cases decide ((d.sectors.length : Int) ≤ 40) <;> cases decide ((d.pending.length : Int) ≤ 40) <;> rfl
  · intro sf i s x t h1 h2 h3 _ ih
    unfold m29_overflightlaw45_few_B0
    have g1 : l.getD (i : Int).toNat default = x := getD_of h2
    rw [decide_eq_true (ipos h1), cond_true, ck_eq (by omega), g1, h3, ih _ trivial]; rfl
end Go.Fx



set_option linter.unusedVariables false
set_option linter.unusedSimpArgs false
set_option maxRecDepth 100000
set_option maxHeartbeats 0
namespace Go.Fx
open Go Go.RowKit Go.Proofs
end Go.Fx



set_option linter.unusedVariables false
set_option linter.unusedSimpArgs false
set_option maxRecDepth 100000
set_option maxHeartbeats 0
namespace Go.Fx
open Go Go.RowKit Go.Proofs
end Go.Fx



/- What the operations of the disk answer (chapter 45). -/
set_option linter.unusedSimpArgs false
set_option linter.unusedVariables false
namespace Go.Fx
open Go Go.RowKit
/-- the first index from i where g holds, or -1 -/
def fidx {α} (g : α → Bool) : Nat → List α → Int
  | _, [] => -1
  | i, x :: t => bif g x then (i : Int) else fidx g (i + 1) t
theorem fidx_any {α} (g : α → Bool) (l : List α) (i : Nat) : decide (0 ≤ fidx g i l) = l.any g := by
  induction l generalizing i with
  | nil => rfl
  | cons x t ih => cases h : g x <;> simp [fidx, h, ih]
theorem m44_eq (s : List XWrite) (f : XWrite → Option Bool) (g : XWrite → Bool) (hf : ∀ x, f x = some (g x)) (hl : s.length < 9223372036854775807) : m44_api_Write_ s f = some (s.any g) := by
  have : m65_api_Write_ s f = some (fidx g 0 s) := by
    unfold m65_api_Write_
    refine up_listI (fun i t => some (fidx g i t)) s hl ?_ ?_ (by omega)
    · intro sf; unfold m65_api_Write__B0; simp [fidx]
    · intro sf i x t h1 h2 h3 ih; unfold m65_api_Write__B0; obtain ⟨_, rfl⟩ := List.getElem?_eq_some_iff.1 h2; cases h : g s[i] <;> simp [h1, h3, ih, hf, h, fidx, ck_eq]
  unfold m44_api_Write_; rw [this]; simp [fidx_any]
theorem m45_eq (s : List (List UInt8)) (f : List UInt8 → Option Bool) (g : List UInt8 → Bool) (hf : ∀ x, f x = some (g x)) (hl : s.length < 9223372036854775807) : m45_slices_ContainsFuncbyte_byte_ s f = some (s.any g) := by
  have : m66_slices_IndexFuncbyte_byte_ s f = some (fidx g 0 s) := by
    unfold m66_slices_IndexFuncbyte_byte_
    refine up_listI (fun i t => some (fidx g i t)) s hl ?_ ?_ (by omega)
    · intro sf; unfold m66_slices_IndexFuncbyte_byte__B0; simp [fidx]
    · intro sf i x t h1 h2 h3 ih; unfold m66_slices_IndexFuncbyte_byte__B0; obtain ⟨_, rfl⟩ := List.getElem?_eq_some_iff.1 h2; cases h : g s[i] <;> simp [h1, h3, ih, hf, h, fidx, ck_eq]
  unfold m45_slices_ContainsFuncbyte_byte_; rw [this]; simp [fidx_any]
def secBad (b : List UInt8) : Bool := !decide (b.length = 128)
def wrBad (n : Nat) (w : XWrite) : Bool := decide (w.at_ < 0) || decide ((n : Int) ≤ w.at_) || !decide (w.data.length = 128)
/-- what Check answers -/
def chk (d : XDisk) : Bool := !(decide ((d.sectors.length : Int) < 1) || decide (4096 < (d.sectors.length : Int)) || decide (4096 < (d.pending.length : Int)) || decide (d.left < -1) || decide (65536 < d.left) || d.pending.any (wrBad d.sectors.length) || d.sectors.any secBad)
structure Few' (d : XDisk) : Prop where
  s : d.sectors.length < 9223372036854775807
  p : d.pending.length < 9223372036854775807
theorem m18_eq (d : XDisk) (h : Few' d) : m18_disk_Check d = some (bif chk d then 0 else 440) := by
  unfold m18_disk_Check
  rw [m44_eq _ _ (wrBad d.sectors.length) _ h.p, m45_eq _ _ secBad _ h.s]
  · unfold chk
    simp only [jn_eq, Option.bind_some]
    cases decide ((d.sectors.length : Int) < 1) <;> cases decide (4096 < (d.sectors.length : Int)) <;> cases decide (4096 < (d.pending.length : Int)) <;> cases decide (d.left < -1) <;> cases decide (65536 < d.left) <;> cases d.pending.any (wrBad d.sectors.length) <;> cases d.sectors.any secBad <;> rfl
  · intro x; simp [m46_disk_Check_2, m43_disk_isSector, secBad]; omega
  · intro w; simp only [m42_disk_Check_1, m43_disk_isSector, wrBad]
    by_cases h1 : w.at_ < 0 <;> by_cases h2 : (d.sectors.length : Int) ≤ w.at_ <;> by_cases h3 : w.data.length = 128 <;> simp [h1, h2, h3] <;> omega
theorem m17_refl (a : XDisk) (h : Few' a) : m17_overflightref44_Same a a = some true := by
  unfold m17_overflightref44_Same
  have e1 : loop1 (m17_overflightref44_Same_B1 a a) (((a.pending.length : Int) - 0).toNat + 1) 0 = some true := by
    refine up_list0 (fun t => some true) a.pending h.p ?_ ?_ (by simp)
    · intro sf; simp [m17_overflightref44_Same_B1]
    · intro sf i x t h1 h2 h3 ih; obtain ⟨_, rfl⟩ := List.getElem?_eq_some_iff.1 h2
      unfold m17_overflightref44_Same_B1
      simp [h1, h3, ih, ck_eq]
  have e0 : loop1 (m17_overflightref44_Same_B0 a a) (((a.sectors.length : Int) - 0).toNat + 1) 0 = some true := by
    refine up_list0 (fun t => some true) a.sectors h.s ?_ ?_ (by simp)
    · intro sf; unfold m17_overflightref44_Same_B0; rw [e1]; simp
    · intro sf i x t h1 h2 h3 ih; obtain ⟨_, rfl⟩ := List.getElem?_eq_some_iff.1 h2
      unfold m17_overflightref44_Same_B0
      simp [h1, h3, ih, ck_eq]
  rw [e0]; simp
theorem m47_eq (d : XDisk) (h : Few' d) : m47_disk_runs d = some (chk d && !d.stopped) := by
  unfold m47_disk_runs; rw [m18_eq d h]; cases chk d <;> simp
theorem m48_eq (d : XDisk) (a : Int) : m48_disk_has d a = some (decide (0 ≤ a) && decide (a < (d.sectors.length : Int))) := by
  unfold m48_disk_has; cases h : decide (0 ≤ a) <;> simp
/-- the bytes of a sector that begins with some bytes -/
def pad (b : List UInt8) : List UInt8 := b.take 128 ++ (List.replicate 128 (0 : UInt8)).drop b.length
def dsk0 : XDisk := ⟨[], [], 0, false⟩
theorem m23_eq (d : XDisk) (a : Int) (b : List UInt8) (h : Few' d) : m23_disk_Write d a b =
    some (bif (chk d && !d.stopped) && (decide (0 ≤ a) && decide (a < (d.sectors.length : Int))) then
      (bif decide (128 < b.length) then (dsk0, 1) else bif decide (d.pending.length = 4096) then (dsk0, 2) else (⟨d.sectors, d.pending ++ [⟨a, pad b⟩], d.left, d.stopped⟩, 0)) else (dsk0, 440)) := by
  unfold m23_disk_Write
  rw [m47_eq d h, m48_eq]
  cases hc : chk d && !d.stopped
  · simp [dsk0]
  cases ha : (decide (0 ≤ a) && decide (a < (d.sectors.length : Int)))
  · simp [dsk0]
  have hp : d.pending.length ≤ 4096 := by
    have : chk d = true := by revert hc; cases chk d <;> simp
    unfold chk at this; simp at this; omega
  have e1 : (128 < (b.length : Int)) = (128 < b.length) := by apply propext; omega
  have e2 : ((d.pending.length : Int) = 4096) = (d.pending.length = 4096) := by apply propext; omega
  have e3 : m50_api_Write_ d.pending = some d.pending := by unfold m50_api_Write_; rw [ck_eq (by simp; omega)]; simp
  have e4 : m49_api_Write_ d.pending = some d.pending := by unfold m49_api_Write_; rw [ck_eq (by simp)]; simp
  simp only [Option.bind_some, jn_eq, Bool.not_true, cond_false, e1, e2, e3, e4]
  cases decide (128 < b.length)
  · cases decide (d.pending.length = 4096)
    · simp only [cond_false]
      rw [ck_eq (by omega), ck_eq (by simp), ck_eq (by simp; omega)]; simp [pad]
    · simp [dsk0]
  · simp [dsk0]
/-- the sectors after some writes -/
def perf (s : List (List UInt8)) (l : List XWrite) : List (List UInt8) := l.foldl (fun s w => s.set w.at_.toNat w.data) s
theorem perf_len (l : List XWrite) (s : List (List UInt8)) : (perf s l).length = s.length := by
  induction l generalizing s with
  | nil => rfl
  | cons x t ih => show (perf (s.set _ _) t).length = _; rw [ih]; simp
theorem m51_eq (s : List (List UInt8)) (l : List XWrite) (hs : s.length ≤ 5000) (hl : l.length < 5000) (hw : ∀ w ∈ l, 0 ≤ w.at_ ∧ w.at_ < (s.length : Int)) : m51_disk_perform s l = some (perf s l) := by
  unfold m51_disk_perform
  have e : m67_slices_Clonebyte_byte_ s = some s := by unfold m67_slices_Clonebyte_byte_; rw [ck_eq (by simp; omega)]; simp
  rw [e]
  show loop2 _ _ s 0 = _
  refine up_listB (σ := List (List UInt8)) (fun i x => x.length = s.length) (fun _ t x => some (perf x t)) l (by omega) ?_ ?_ (by simp) rfl
  · intro sf x _; unfold m51_disk_perform_B0; simp [perf]
  · intro sf i x y t h1 h2 h3 hx ih; obtain ⟨_, rfl⟩ := List.getElem?_eq_some_iff.1 h2
    have hm := hw l[i] (List.getElem_mem _)
    have := ih (x.set l[i].at_.toNat l[i].data) (by simpa using hx)
    unfold m51_disk_perform_B0
    have c1 : (i : Int) < (l.length : Int) := by omega
    have g : l.getD (i : Int).toNat default = l[i] := by simp [h1]
    simp only [c1, decide_true, cond_true, g, h3]
    rw [ck_eq (by simp), ck_eq (by rw [hx]; exact hm), this]; rfl
theorem chk_props {d : XDisk} (hk : chk d = true) : 1 ≤ d.sectors.length ∧ d.sectors.length ≤ 4096 ∧ d.pending.length ≤ 4096 ∧ -1 ≤ d.left ∧ d.left ≤ 65536 ∧ (∀ w ∈ d.pending, 0 ≤ w.at_ ∧ w.at_ < (d.sectors.length : Int) ∧ w.data.length = 128) ∧ ∀ s ∈ d.sectors, s.length = 128 := by
  unfold chk at hk
  simp only [Bool.not_eq_true', Bool.or_eq_false_iff, decide_eq_false_iff_not, List.any_eq_false] at hk
  obtain ⟨⟨⟨⟨⟨⟨h1, h2⟩, h3⟩, h4⟩, h5⟩, h6⟩, h7⟩ := hk
  refine ⟨by omega, by omega, by omega, by omega, by omega, fun w hw => ?_, fun s hs => ?_⟩
  · have := h6 w hw; simp [wrBad] at this; omega
  · have := h7 s hs; simpa [secBad] using this
theorem perf_all (l : List XWrite) (s : List (List UInt8)) (hs : ∀ x ∈ s, x.length = 128) (hl : ∀ w ∈ l, w.data.length = 128) : ∀ x ∈ perf s l, x.length = 128 := by
  induction l generalizing s with
  | nil => exact hs
  | cons w t ih =>
    refine ih (s.set w.at_.toNat w.data) (fun x hx => ?_) (fun w hw => hl w (by simp [hw]))
    rcases List.mem_or_eq_of_mem_set hx with h | h
    · exact hs x h
    · subst h; exact hl w (by simp)
/-- the torn sector -/
def torn (s : List UInt8) (w : List UInt8) : List UInt8 := w.take 64 ++ s.drop (min w.length 64)
theorem m25_eq (d : XDisk) (h : Few' d) : m25_disk_Sync d = some (bif chk d && !d.stopped then
      (bif decide (0 ≤ d.left) && decide (d.left < (d.pending.length : Int)) then
        (⟨(perf d.sectors (d.pending.take d.left.toNat)).set (d.pending.getD d.left.toNat default).at_.toNat (torn ((perf d.sectors (d.pending.take d.left.toNat)).getD (d.pending.getD d.left.toNat default).at_.toNat default) (d.pending.getD d.left.toNat default).data), [], 0, true⟩, 440)
      else (⟨perf d.sectors d.pending, [], bif decide (0 ≤ d.left) then d.left - (d.pending.length : Int) else d.left, false⟩, 0)) else (dsk0, 440)) := by
  unfold m25_disk_Sync
  rw [m47_eq d h]
  cases hc : chk d && !d.stopped
  · simp [dsk0]
  have hk : chk d = true := by revert hc; cases chk d <;> simp
  obtain ⟨p1, p2, p3, p4, p5, p6, p7⟩ := chk_props hk
  have hst : d.stopped = false := by revert hc; cases d.stopped <;> simp
  simp only [Option.bind_some, jn_eq, Bool.not_true, cond_false, cond_true]
  cases hL : decide (0 ≤ d.left) && decide (d.left < (d.pending.length : Int))
  · have e : m51_disk_perform d.sectors d.pending = some (perf d.sectors d.pending) := m51_eq _ _ (by omega) (by omega) (fun w hw => ⟨(p6 w hw).1, (p6 w hw).2.1⟩)
    rw [e]
    cases h0 : decide (0 ≤ d.left)
    · simp
    · have h1 : decide (d.left < (d.pending.length : Int)) = false := by rw [h0] at hL; simpa using hL
      have w : IntKind.i64.wrap (d.left - (d.pending.length : Int)) = d.left - (d.pending.length : Int) := wrap_i64 (by omega) (by omega)
      simp [h1, w]
  · simp only [Bool.and_eq_true, decide_eq_true_eq] at hL
    obtain ⟨l0, l1⟩ := hL
    have hn : d.left.toNat < d.pending.length := by omega
    have hm := p6 _ (List.getElem_mem hn)
    have e : m51_disk_perform d.sectors (d.pending.take d.left.toNat) = some (perf d.sectors (d.pending.take d.left.toNat)) := m51_eq _ _ (by omega) (by simp; omega) (fun w hw => ⟨(p6 w (List.mem_of_mem_take hw)).1, (p6 w (List.mem_of_mem_take hw)).2.1⟩)
    have g : d.pending.getD d.left.toNat default = d.pending[d.left.toNat] := by simp [hn]
    simp only [l0, l1, decide_true, cond_true, g, List.drop_zero, Nat.sub_zero, e]
    have hlen : (perf d.sectors (d.pending.take d.left.toNat)).length = d.sectors.length := perf_len _ _
    have hi : d.pending[d.left.toNat].at_.toNat < (perf d.sectors (d.pending.take d.left.toNat)).length := by rw [hlen]; omega
    have h128 := perf_all (d.pending.take d.left.toNat) d.sectors p7 (fun w hw => (p6 w (List.mem_of_mem_take hw)).2.2) _ (List.getElem_mem hi)
    have g2 : (perf d.sectors (d.pending.take d.left.toNat)).getD d.pending[d.left.toNat].at_.toNat default = (perf d.sectors (d.pending.take d.left.toNat))[d.pending[d.left.toNat].at_.toNat] := by simp [hi]
    have e5 : ∀ x : List UInt8, x.length = 128 → m52_slices_Clonebyte_byte_ x = some x := fun x hx => by unfold m52_slices_Clonebyte_byte_; rw [ck_eq (by simp; omega)]; simp
    have hb : 0 ≤ d.pending[d.left.toNat].at_ ∧ d.pending[d.left.toNat].at_ < ((perf d.sectors (d.pending.take d.left.toNat)).length : Int) := by rw [hlen]; exact ⟨hm.1, hm.2.1⟩
    have hc2 : d.left ≤ (d.pending.length : Int) := by omega
    simp only [Option.bind_some, hc2, and_self, ck_True, hb, and_true, g2, e5 _ h128]
    rw [ck_eq (by omega), ck_eq (by omega)]
    simp [torn]
theorem pad_full {b : List UInt8} (h : b.length = 128) : pad b = b := by unfold pad; rw [List.take_of_length_le (by omega), List.drop_eq_nil_of_le (by simp; omega)]; simp
theorem chk_of {d : XDisk} (h1 : 1 ≤ d.sectors.length) (h2 : d.sectors.length ≤ 4096) (h3 : d.pending.length ≤ 4096) (h4 : -1 ≤ d.left) (h5 : d.left ≤ 65536) (h6 : ∀ w ∈ d.pending, 0 ≤ w.at_ ∧ w.at_ < (d.sectors.length : Int) ∧ w.data.length = 128) (h7 : ∀ s ∈ d.sectors, s.length = 128) : chk d = true := by
  unfold chk
  simp only [Bool.not_eq_true', Bool.or_eq_false_iff, decide_eq_false_iff_not, List.any_eq_false]
  refine ⟨⟨⟨⟨⟨⟨by omega, by omega⟩, by omega⟩, by omega⟩, by omega⟩, fun w hw => ?_⟩, fun s hs => ?_⟩
  · have := h6 w hw; simp [wrBad, this.2.2]; omega
  · simp [secBad, h7 s hs]
/-- a write -/
def wr (d : XDisk) (a : Int) (b : List UInt8) : XDisk := ⟨d.sectors, d.pending ++ [⟨a, pad b⟩], d.left, d.stopped⟩
theorem wr_ok {d : XDisk} {a : Int} {b : List UInt8} (hf : Few' d) (h : chk d = true) (hs : d.stopped = false) (h0 : 0 ≤ a) (h1 : a < (d.sectors.length : Int)) (hp : d.pending.length ≠ 4096) (hb : b.length ≤ 128) : m23_disk_Write d a b = some (wr d a b, 0) := by
  rw [m23_eq d a b hf]
  have e1 : decide (128 < b.length) = false := by simp; omega
  simp [h, hs, h0, h1, hp, e1, wr]
theorem chk_few {d : XDisk} (h : chk d = true) : Few' d := by
  obtain ⟨p1, p2, p3, p4, p5, p6, p7⟩ := chk_props h
  exact ⟨by omega, by omega⟩
/-- the disk after a sync that does not stop -/
def snc (d : XDisk) : XDisk := ⟨perf d.sectors d.pending, [], bif decide (0 ≤ d.left) then d.left - (d.pending.length : Int) else d.left, false⟩
/-- the disk after a sync that stops -/
def stp (d : XDisk) : XDisk := ⟨(perf d.sectors (d.pending.take d.left.toNat)).set (d.pending.getD d.left.toNat default).at_.toNat (torn ((perf d.sectors (d.pending.take d.left.toNat)).getD (d.pending.getD d.left.toNat default).at_.toNat default) (d.pending.getD d.left.toNat default).data), [], 0, true⟩
theorem sn_ok {d : XDisk} (h : chk d = true) (hs : d.stopped = false) : m25_disk_Sync d = some (bif decide (0 ≤ d.left) && decide (d.left < (d.pending.length : Int)) then (stp d, 440) else (snc d, 0)) := by
  rw [m25_eq d (chk_few h)]; simp [h, hs, stp, snc]
theorem m15_all : ∀ k : _root_.Fin 41, 1 ≤ k.val → m15_disk_New (k.val : Int) = some (⟨List.replicate k.val (List.replicate 128 0), [], -1, false⟩, 0) := by decide +kernel
theorem m15_ok {k : Nat} (h1 : 1 ≤ k) (h2 : k ≤ 40) : m15_disk_New (k : Int) = some (⟨List.replicate k (List.replicate 128 0), [], -1, false⟩, 0) := m15_all ⟨k, by omega⟩ h1
end Go.Fx



/- Check sums, sectors, and what good says of them. -/
set_option linter.unusedSimpArgs false
set_option linter.unusedVariables false
namespace Go.Fx
open Go Go.RowKit
/-- one bit of the check sum -/
def shN (n : Nat) : Nat := (n / 2) ^^^ (if n % 2 = 1 then 3988292384 else 0)
theorem shN_lt {n : Nat} (h : n < 4294967296) : shN n < 4294967296 := by
  unfold shN
  refine Nat.xor_lt_two_pow (n := 32) (by omega) (by split <;> decide)
def st8 (n : Nat) : Nat := shN (shN (shN (shN (shN (shN (shN (shN n)))))))
theorem st8_lt {n : Nat} (h : n < 4294967296) : st8 n < 4294967296 := shN_lt (shN_lt (shN_lt (shN_lt (shN_lt (shN_lt (shN_lt (shN_lt h)))))))
theorem u8lt (c : UInt8) : c.toNat < 256 := c.toNat_lt
theorem xorB_lt {n : Nat} (h : n < 4294967296) (c : UInt8) : n ^^^ c.toNat < 4294967296 :=
  Nat.xor_lt_two_pow (n := 32) (by omega) (by have := u8lt c; omega)
/-- one byte -/
def stB (n : Nat) (c : UInt8) : Nat := st8 (n ^^^ c.toNat)
theorem stB_lt {n : Nat} (h : n < 4294967296) (c : UInt8) : stB n c < 4294967296 := st8_lt (xorB_lt h c)
theorem fold_lt : ∀ (l : List UInt8) {n : Nat}, n < 4294967296 → l.foldl stB n < 4294967296
  | [], _, h => h
  | c :: t, _, h => fold_lt t (stB_lt h c)
def sumN (b : List UInt8) : Nat := 4294967295 ^^^ b.foldl stB 4294967295
theorem sumN_lt (b : List UInt8) : sumN b < 4294967296 := Nat.xor_lt_two_pow (n := 32) (by decide) (fold_lt b (by decide))
theorem sh_eq {n : Nat} (h : n < 4294967296) : Go.bits .xor .u32 ((n : Int) / 2 ^ min 1 (IntKind.bits .u32)) (IntKind.wrap .u32 (3988292384 * (Go.bits .and .u32 (n : Int) 1))) = (shN n : Int) := by
  have e1 : ((n : Int) / 2 ^ min 1 (IntKind.bits .u32)) = ((n / 2 : Nat) : Int) := by
    rw [show (2 : Int) ^ min 1 (IntKind.bits .u32) = 2 from rfl]; omega
  have e2 : Go.bits .and .u32 (n : Int) 1 = ((n % 2 : Nat) : Int) := by
    have := u32_and_nat n 1 h (by omega); rw [nat_mask1] at this; exact this
  rw [e1, e2, IntKind.wrap_u32']
  unfold shN
  by_cases h3 : n % 2 = 1
  · rw [if_pos h3, h3]; exact u32_xor_nat _ 3988292384 (by omega) (by decide)
  · rw [if_neg h3, show n % 2 = 0 by omega]; exact u32_xor_nat _ 0 (by omega) (by decide)
theorem m72_eq (b : List UInt8) (hl : b.length < 9223372036854775807) : m72_journal_sum b = some (sumN b : Int) := by
  unfold m72_journal_sum
  refine (up_listB (B := m72_journal_sum_B0 b) (σ := Int) (fun _ s => ∃ k : Nat, k < 4294967296 ∧ s = (k : Int)) (fun _ t s => some ((4294967295 ^^^ t.foldl stB s.toNat : Nat) : Int)) b hl ?_ ?_ (by omega) ⟨4294967295, by decide, rfl⟩).trans rfl
  · rintro sf s ⟨k, hk, rfl⟩
    unfold m72_journal_sum_B0
    rw [decide_eq_false (Int.lt_irrefl _), cond_false]
    exact congrArg some (u32_xor_nat 4294967295 k (by decide) hk)
  · rintro sf i s x t h1 h2 h3 ⟨k, hk, rfl⟩ ih
    unfold m72_journal_sum_B0
    have g1 : b.getD (i : Int).toNat default = x := getD_of h2
    rw [decide_eq_true (ipos h1), cond_true, ck_eq (by omega), g1]
    have e0 : Go.bits .xor .u32 (k : Int) (x.toNat : Int) = ((k ^^^ x.toNat : Nat) : Int) := u32_xor_nat _ _ hk (by have := u8lt x; omega)
    rw [e0]
    have one : ∀ (f n : Nat) (j : Int), n < 4294967296 → 0 ≤ j → j < 8 → loop2 (m72_journal_sum_B1 (i : Int) sf) (f + 1) (n : Int) j = loop2 (m72_journal_sum_B1 (i : Int) sf) f (shN n : Int) (j + 1) := by
      intro f n j hn h0 h8
      rw [loop2_succ]
      generalize loop2 (m72_journal_sum_B1 (i : Int) sf) f = L
      unfold m72_journal_sum_B1
      rw [decide_eq_true h8, cond_true, sh_eq hn, wrap_i64 (by omega) (by omega)]
    have l0 := xorB_lt hk x
    have l1 := shN_lt l0; have l2 := shN_lt l1; have l3 := shN_lt l2; have l4 := shN_lt l3; have l5 := shN_lt l4; have l6 := shN_lt l5; have l7 := shN_lt l6
    show loop2 (m72_journal_sum_B1 (i : Int) sf) 9 ((k ^^^ x.toNat : Nat) : Int) 0 = _
    rw [one 8 _ 0 l0 (by decide) (by decide), one 7 _ _ l1 (by decide) (by decide), one 6 _ _ l2 (by decide) (by decide), one 5 _ _ l3 (by decide) (by decide), one 4 _ _ l4 (by decide) (by decide), one 3 _ _ l5 (by decide) (by decide), one 2 _ _ l6 (by decide) (by decide), one 1 _ _ l7 (by decide) (by decide), loop2_succ]
    unfold m72_journal_sum_B1
    rw [decide_eq_false (by decide), cond_false, h3, ih _ ⟨_, shN_lt l7, rfl⟩]
    rfl
/-- bytes of a number -/
def bt (n : Nat) : UInt8 := UInt8.ofNat (n % 256)
theorem bt_toNat (n : Nat) : (bt n).toNat = n % 256 := by unfold bt; simp
def put4 (n : Nat) : List UInt8 := [bt (n / 16777216), bt (n / 65536), bt (n / 256), bt n]
def put2 (n : Nat) : List UInt8 := [bt (n / 256), bt n]
theorem wrap8 (n : Nat) : UInt8.ofNat (IntKind.wrap .u8 (n : Int)).toNat = bt n := by
  rw [IntKind.wrap_u8']; unfold bt; congr 1
theorem m71_4 {b : List UInt8} (hb : b.length = 4) (n : Nat) : m71_journal_put b (n : Int) = some (put4 n) := by
  obtain ⟨b0, b1, b2, b3, rfl⟩ : ∃ b0 b1 b2 b3, b = [b0, b1, b2, b3] := by
    match b, hb with
    | [b0, b1, b2, b3], _ => exact ⟨b0, b1, b2, b3, rfl⟩
  have : m71_journal_put [b0, b1, b2, b3] (n : Int) = some [UInt8.ofNat (IntKind.wrap .u8 ((n : Int) / 16777216)).toNat, UInt8.ofNat (IntKind.wrap .u8 ((n : Int) / 65536)).toNat, UInt8.ofNat (IntKind.wrap .u8 ((n : Int) / 256)).toNat, UInt8.ofNat (IntKind.wrap .u8 ((n : Int) / 1)).toNat] := by kernel_rfl
  rw [this, show ((n : Int) / 16777216) = ((n / 16777216 : Nat) : Int) by omega, show ((n : Int) / 65536) = ((n / 65536 : Nat) : Int) by omega, show ((n : Int) / 256) = ((n / 256 : Nat) : Int) by omega, show ((n : Int) / 1) = (n : Int) by omega, wrap8, wrap8, wrap8, wrap8]; rfl
theorem m71_2 {b : List UInt8} (hb : b.length = 2) (n : Nat) : m71_journal_put b (n : Int) = some (put2 n) := by
  obtain ⟨b0, b1, rfl⟩ : ∃ b0 b1, b = [b0, b1] := by
    match b, hb with
    | [b0, b1], _ => exact ⟨b0, b1, rfl⟩
  have : m71_journal_put [b0, b1] (n : Int) = some [UInt8.ofNat (IntKind.wrap .u8 ((n : Int) / 256)).toNat, UInt8.ofNat (IntKind.wrap .u8 ((n : Int) / 1)).toNat] := by kernel_rfl
  rw [this, show ((n : Int) / 256) = ((n / 256 : Nat) : Int) by omega, show ((n : Int) / 1) = (n : Int) by omega, wrap8, wrap8]; rfl
/-- a number of bytes -/
def getN (b : List UInt8) : Nat := b.foldl (fun n c => n * 256 + c.toNat) 0
theorem m60_eq (b : List UInt8) (hb : b.length ≤ 4) : m60_journal_get b = some (getN b : Int) ∧ getN b < 4294967296 := by
  have key : ∀ (t : List UInt8) (i n : Nat), n < 256 ^ i → t.foldl (fun n c => n * 256 + c.toNat) n < 256 ^ (i + t.length) := by
    intro t
    induction t with
    | nil => intro i n h; exact h
    | cons c t ih =>
      intro i n h
      have := ih (i + 1) (n * 256 + c.toNat) (by have := u8lt c; rw [Nat.pow_succ]; omega)
      rw [List.length_cons, show i + (t.length + 1) = i + 1 + t.length by omega]; exact this
  have lim : ∀ i : Nat, i ≤ 4 → 256 ^ i ≤ 4294967296 := fun i hi => Nat.le_trans (Nat.pow_le_pow_right (by decide) hi) (by decide)
  refine ⟨?_, Nat.lt_of_lt_of_le (by have := key b 0 0 (by decide); rwa [Nat.zero_add] at this) (lim _ hb)⟩
  unfold m60_journal_get
  refine (up_listB (B := m60_journal_get_B0 b) (σ := Int) (fun i s => ∃ k : Nat, k < 256 ^ i ∧ s = (k : Int)) (fun _ t s => some ((t.foldl (fun n c => n * 256 + c.toNat) s.toNat : Nat) : Int)) b (by omega) ?_ ?_ (by omega) ⟨0, by decide, rfl⟩).trans rfl
  · rintro sf s ⟨k, hk, rfl⟩
    unfold m60_journal_get_B0
    rw [decide_eq_false (Int.lt_irrefl _)]; rfl
  · rintro sf i s x t h1 h2 h3 ⟨k, hk, rfl⟩ ih
    unfold m60_journal_get_B0
    have g1 : b.getD (i : Int).toNat default = x := getD_of h2
    have hx := u8lt x
    have hk4 : k < 16777216 := Nat.lt_of_lt_of_le hk (Nat.le_trans (Nat.pow_le_pow_right (n := 256) (by decide) (show i ≤ 3 by omega)) (by decide))
    have e1 : IntKind.wrap .u64 ((k : Int) * 2 ^ min 8 (IntKind.bits .u64)) = ((k * 256 : Nat) : Int) := by
      rw [show (2 : Int) ^ min 8 (IntKind.bits .u64) = 256 from rfl, IntKind.wrap_u64]; omega
    have e2 : Go.bits .or .u64 ((k * 256 : Nat) : Int) (x.toNat : Int) = ((k * 256 + x.toNat : Nat) : Int) := by
      rw [u64_or_nat _ _ (by omega) (by omega), nat_join 8 _ _ (by omega) (by omega)]
    rw [decide_eq_true (ipos h1), cond_true, ck_eq (by omega), g1, e1, e2, h3, ih _ ⟨_, by rw [Nat.pow_succ]; omega, rfl⟩]; rfl
theorem get_put {n : Nat} (h : n < 4294967296) : getN (put4 n) = n := by
  simp only [getN, put4, List.foldl_cons, List.foldl_nil, bt_toNat]; omega
/-- what is summed up -/
def mid (num : Nat) (kind : UInt8) (b : List UInt8) : List UInt8 := put2 num ++ (kind :: bt b.length :: (b ++ List.replicate (112 - b.length) 0))
/-- a sector -/
def enc (g num : Nat) (kind : UInt8) (b : List UInt8) : List UInt8 := put4 g ++ (put4 (sumN (mid num kind b)) ++ (mid num kind b ++ put4 g))
theorem mid_len {num : Nat} {kind : UInt8} {b : List UInt8} (hb : b.length ≤ 112) : (mid num kind b).length = 116 := by simp [mid, put2]; omega
theorem enc_len {g num : Nat} {kind : UInt8} {b : List UInt8} (hb : b.length ≤ 112) : (enc g num kind b).length = 128 := by simp [enc, put4, mid_len hb]
theorem setw_at {α : Type} {A X B Y : List α} {l h : Nat} (hl : A.length = l) (hX : X.length + l = h) : setw (A ++ (X ++ B)) l h Y = A ++ (Y ++ B) := by
  subst hl
  have e : h = A.length + X.length := by omega
  subst e
  unfold setw
  rw [List.take_left, ← List.append_assoc A X B, ← List.length_append, List.drop_left, List.append_assoc]
theorem rep_split (n k : Nat) : List.replicate (n + k) (0 : UInt8) = List.replicate n 0 ++ List.replicate k 0 := by rw [List.replicate_append_replicate]
theorem mid_at {α : Type} {A X B : List α} {l k : Nat} (hl : A.length = l) (hX : X.length = k) : ((A ++ (X ++ B)).drop l).take k = X := by
  subst hl; subst hX; rw [List.drop_left, List.take_left]
theorem m63_eq {g num : Nat} {kind : UInt8} {b : List UInt8} (hn : num < 18446744073709551616) (hb : b.length ≤ 112) :
    m63_journal_encode (g : Int) (num : Int) kind b = some (enc g num kind b) := by
  have l4 : ∀ n, (put4 n).length = 4 := fun _ => rfl
  have l2 : ∀ n, (put2 n).length = 2 := fun _ => rfl
  obtain ⟨S1, hS1⟩ : ∃ S, S = setw (List.replicate 128 (0 : UInt8)) 0 4 (put4 g) := ⟨_, rfl⟩
  have e1 : S1 = (put4 g ++ List.replicate 4 0) ++ (List.replicate 2 0 ++ List.replicate 118 0) := by
    rw [hS1]
    have := setw_at (A := ([] : List UInt8)) (X := List.replicate 4 0) (B := List.replicate 124 0) (Y := put4 g) (l := 0) (h := 4) rfl rfl
    rw [show List.replicate 128 (0 : UInt8) = [] ++ (List.replicate 4 0 ++ List.replicate 124 0) from rfl, this]; rfl
  obtain ⟨S2, hS2⟩ : ∃ S, S = setw S1 8 10 (put2 num) := ⟨_, rfl⟩
  have e2 : S2 = (put4 g ++ List.replicate 4 0) ++ (put2 num ++ List.replicate 118 0) := by
    rw [hS2, e1]; exact setw_at rfl rfl
  obtain ⟨S4, hS4⟩ : ∃ S, S = (S2.set 10 kind).set 11 (bt b.length) := ⟨_, rfl⟩
  have e4 : S4 = (put4 g ++ (List.replicate 4 0 ++ (put2 num ++ [kind, bt b.length]))) ++ List.replicate 116 0 := by
    rw [hS4, e2]; rfl
  obtain ⟨S5, hS5⟩ : ∃ S, S = S4.take 12 ++ (b.take (128 - 12) ++ (S4.drop 12).drop (min b.length (128 - 12))) := ⟨_, rfl⟩
  have e5 : S5 = (put4 g ++ (List.replicate 4 0 ++ (mid num kind b))) ++ (List.replicate 4 0 ++ []) := by
    rw [hS5, e4]
    have h12 : (put4 g ++ (List.replicate 4 0 ++ (put2 num ++ [kind, bt b.length]))).length = 12 := rfl
    rw [List.take_left' h12, List.drop_left' h12, List.take_of_length_le (by omega), List.drop_replicate, show 116 - min b.length (128 - 12) = (112 - b.length) + 4 by omega, rep_split]
    simp [mid]
  obtain ⟨S6, hS6⟩ : ∃ S, S = setw S5 124 128 (put4 g) := ⟨_, rfl⟩
  have e6 : S6 = put4 g ++ (List.replicate 4 0 ++ (mid num kind b ++ put4 g)) := by
    rw [hS6, e5]; exact (setw_at (A := put4 g ++ (List.replicate 4 0 ++ mid num kind b)) (X := List.replicate 4 0) (B := []) (Y := put4 g) (by simp [l4, mid_len hb]) rfl).trans (by simp)
  have e6' : S6 = (put4 g ++ List.replicate 4 0) ++ (mid num kind b ++ put4 g) := by rw [e6]; simp
  obtain ⟨S7, hS7⟩ : ∃ S, S = setw S6 4 8 (put4 (sumN (mid num kind b))) := ⟨_, rfl⟩
  have e7 : S7 = enc g num kind b := by rw [hS7, e6]; exact setw_at (A := put4 g) (X := List.replicate 4 0) (B := mid num kind b ++ put4 g) (Y := put4 (sumN (mid num kind b))) rfl rfl
  have n1 : S1.length = 128 := by rw [e1]; rfl
  have n2 : S2.length = 128 := by rw [e2]; rfl
  have n4 : S4.length = 128 := by rw [e4]; rfl
  have n5 : S5.length = 128 := by rw [e5]; simp [l4, mid_len hb]
  have n6 : S6.length = 128 := by rw [e6]; simp [l4, mid_len hb]
  have w0 : IntKind.wrap .u64 (num : Int) = (num : Int) := by rw [IntKind.wrap_u64]; omega
  have w1 : UInt8.ofNat (IntKind.wrap .u8 (b.length : Int)).toNat = bt b.length := wrap8 _
  have t8 : (S6.drop 8).take (124 - 8) = mid num kind b := by rw [e6']; exact mid_at rfl (mid_len hb)
  have w2 : IntKind.wrap .u64 (sumN (mid num kind b) : Int) = (sumN (mid num kind b) : Int) := by have := sumN_lt (mid num kind b); rw [IntKind.wrap_u64]; omega
  unfold m63_journal_encode
  rw [ck_eq (by simp), m71_4 (by simp), Option.bind_some, ← hS1, ck_eq (by rw [n1]; decide), w0, m71_2 (by rw [List.length_take, List.length_drop, n1]; decide)]
  rw [Option.bind_some, ← hS2, w1, ← hS4, ← hS5]
  rw [ck_eq (by rw [n2]; decide), ck_eq (by rw [List.length_set, n2]; decide), ck_eq (by rw [n4]; decide), ck_eq (by decide), ck_eq (by rw [n5]; decide), m71_4 (by rw [List.length_take, List.length_drop, n5]; decide), Option.bind_some, ← hS6]
  rw [ck_eq (by rw [n6]; decide), ck_eq (by rw [n6]; decide), t8, m72_eq _ (by rw [mid_len hb]; decide), Option.bind_some, w2, m71_4 (by rw [List.length_take, List.length_drop, n6]; decide), Option.bind_some, ← hS7, e7, ck_eq (enc_len hb)]
end Go.Fx



/- Sectors: what good says, and that damage and tearing are noticed. -/
set_option linter.unusedSimpArgs false
set_option linter.unusedVariables false
namespace Go.Fx
open Go Go.RowKit
section
variable {g num : Nat} {kind : UInt8} {b : List UInt8}
theorem enc_take4 : (enc g num kind b).take 4 = put4 g := rfl
theorem enc_drop124 (hb : b.length ≤ 112) : (enc g num kind b).drop 124 = put4 g := by
  have : enc g num kind b = (put4 g ++ (put4 (sumN (mid num kind b)) ++ mid num kind b)) ++ put4 g := by simp [enc]
  rw [this]; exact List.drop_left' (by simp [put4, mid_len hb])
theorem enc_11 (hb : b.length ≤ 112) : ((enc g num kind b).getD 11 default).toNat = b.length := by
  have : (enc g num kind b).getD 11 default = bt b.length := rfl
  rw [this, bt_toNat]; omega
theorem enc_body : ((enc g num kind b).drop 12).take b.length = b := by
  have : (enc g num kind b).drop 12 = b ++ (List.replicate (112 - b.length) 0 ++ put4 g) := by
    show (b ++ List.replicate (112 - b.length) 0) ++ put4 g = _
    simp
  rw [this, List.take_left]
end
theorem getD_len {α : Type} {l : List α} {i : Nat} {d : α} (h : i < l.length) : l.getD i d = l[i] := by simp [h]
/-- what good answers -/
theorem m70_eq {s : List UInt8} (hs : s.length = 128) (num : Nat) (hn : num < 18446744073709551616) : ∃ r, m70_journal_good s (num : Int) = some r ∧
    (r = true → s = enc (getN (s.take 4)) num (s.getD 10 default) ((s.drop 12).take (s.getD 11 default).toNat) ∧ (s.getD 11 default).toNat ≤ 112) := by
  unfold m70_journal_good
  rw [ck_eq (by rw [hs]; decide)]
  simp only [jn_eq]
  obtain ⟨n, hN⟩ : ∃ n, n = (s.getD 11 default).toNat := ⟨_, rfl⟩
  by_cases c1 : (112 : Int) < ((s.getD 11 default).toNat : Int)
  · rw [decide_eq_true c1]; exact ⟨false, rfl, by simp⟩
  have hle : (s.getD 11 default).toNat ≤ 112 := by omega
  rw [decide_eq_false c1, cond_false]
  have hw : IntKind.wrap .i64 (12 + ((s.getD 11 default).toNat : Int)) = ((12 + (s.getD 11 default).toNat : Nat) : Int) := by rw [wrap_i64 (by omega) (by omega)]; omega
  have hbl : ((s.drop 12).take (s.getD 11 default).toNat).length ≤ 112 := by rw [List.length_take]; omega
  have h4 : ((s.drop 0).take (4 - 0)).length ≤ 4 := by simp; omega
  have c10 : (0 : Int) ≤ 10 ∧ 10 < (s.length : Int) := by rw [hs]; decide
  have c4 : (0 : Int) ≤ (4 : Int) ∧ (4 : Int) ≤ (s.length : Int) := by rw [hs]; decide
  have c12 : (0 : Int) ≤ 12 ∧ (12 : Int) ≤ ((12 + (s.getD 11 default).toNat : Nat) : Int) ∧ ((12 + (s.getD 11 default).toNat : Nat) : Int) ≤ (s.length : Int) := by rw [hs]; omega
  have htk : (s.drop 0).take (4 - 0) = s.take 4 := rfl
  have hT : (ck ((0 : Int) ≤ (4 : Int) ∧ (4 : Int) ≤ (s.length : Int)) <|
      (m60_journal_get ((s.drop 0).take (4 - 0))).bind fun get_1 =>
      bif (decide (0 < get_1)) then
        ck ((0 : Int) ≤ 10 ∧ 10 < (s.length : Int)) <|
        ck ((0 : Int) ≤ 12 ∧ (12 : Int) ≤ (IntKind.wrap .i64 (12 + ((s.getD 11 default).toNat : Int))) ∧ (IntKind.wrap .i64 (12 + ((s.getD 11 default).toNat : Int))) ≤ (s.length : Int)) <|
        (m63_journal_encode get_1 num (s.getD 10 default) ((s.drop 12).take ((IntKind.wrap .i64 (12 + ((s.getD 11 default).toNat : Int))).toNat - 12))).bind fun encode_1 =>
        (m62_bytes_Equal s encode_1).bind fun equal_1 =>
        some equal_1
      else
        some false) = some (decide (0 < getN (s.take 4)) && decide (s = enc (getN (s.take 4)) num (s.getD 10 default) ((s.drop 12).take (s.getD 11 default).toNat))) := by
    rw [ck_eq c4, (m60_eq _ h4).1, Option.bind_some, htk]
    by_cases c0 : 0 < getN (s.take 4)
    · rw [decide_eq_true (show (0 : Int) < (getN (s.take 4) : Int) by omega), decide_eq_true c0, cond_true, ck_eq c10, hw, ck_eq c12]
      rw [show ((12 + (s.getD 11 default).toNat : Nat) : Int).toNat - 12 = (s.getD 11 default).toNat by omega, m63_eq hn hbl]; rfl
    · rw [decide_eq_false (show ¬ (0 : Int) < (getN (s.take 4) : Int) by omega), decide_eq_false c0]; rfl
  rw [hT]
  simp only [ck_eq c10]
  have fin : ∀ v : Bool, ∃ r, (bif v then some false else some (decide (0 < getN (s.take 4)) && decide (s = enc (getN (s.take 4)) num (s.getD 10 default) ((s.drop 12).take (s.getD 11 default).toNat)))) = some r ∧
      (r = true → s = enc (getN (s.take 4)) num (s.getD 10 default) ((s.drop 12).take (s.getD 11 default).toNat) ∧ (s.getD 11 default).toNat ≤ 112) := by
    intro v
    cases v
    · exact ⟨_, rfl, fun h => by simp only [Bool.and_eq_true, decide_eq_true_eq] at h; exact ⟨h.2, hle⟩⟩
    · exact ⟨false, rfl, by simp⟩
  cases decide (3 < ((s.getD 10 default).toNat : Int))
  · rw [cond_false]
    cases decide (((UInt8.ofNat (Go.bits .and .u8 ((s.getD 10 default).toNat : Int) 2).toNat).toNat : Int) = 0)
    · rw [cond_false]
      cases decide (((UInt8.ofNat (Go.bits .and .u8 ((s.getD 10 default).toNat : Int) 1).toNat).toNat : Int) = 0)
      · exact fin false
      · exact fin _
    · rw [cond_true]
      cases decide (((s.getD 11 default).toNat : Int) < 112)
      · rw [cond_false]
        cases decide (((UInt8.ofNat (Go.bits .and .u8 ((s.getD 10 default).toNat : Int) 1).toNat).toNat : Int) = 0)
        · exact fin false
        · exact fin _
      · exact fin true
  · exact fin true
/-- a sector's kind: whether a record begins, whether one ends -/
def kd : Bool → Bool → UInt8
  | true, true => 3
  | true, false => 1
  | false, true => 2
  | false, false => 0
theorem m70_enc {g num : Nat} {f l : Bool} {b : List UInt8} (hg : 0 < g) (hg' : g < 4294967296) (hn : num < 18446744073709551616) (hb : b.length ≤ 112) (hl : l = false → b.length = 112) (hf : f = false → 0 < b.length) :
    m70_journal_good (enc g num (kd f l) b) (num : Int) = some true := by
  obtain ⟨s, hS⟩ : ∃ s, s = enc g num (kd f l) b := ⟨_, rfl⟩
  have hs : s.length = 128 := by rw [hS]; exact enc_len hb
  have h11 : (s.getD 11 default).toNat = b.length := by rw [hS]; exact enc_11 hb
  have h10 : s.getD 10 default = kd f l := by rw [hS]; rfl
  have ht : s.take 4 = put4 g := by rw [hS]; rfl
  have hbd : (s.drop 12).take b.length = b := by rw [hS]; exact enc_body
  rw [← hS]
  unfold m70_journal_good
  rw [ck_eq (by rw [hs]; decide)]
  simp only [jn_eq]
  have hw : IntKind.wrap .i64 (12 + (b.length : Int)) = ((12 + b.length : Nat) : Int) := by rw [wrap_i64 (by omega) (by omega)]; omega
  have c10 : (0 : Int) ≤ 10 ∧ 10 < (s.length : Int) := by rw [hs]; decide
  have c4 : (0 : Int) ≤ (4 : Int) ∧ (4 : Int) ≤ (s.length : Int) := by rw [hs]; decide
  have c12 : (0 : Int) ≤ 12 ∧ (12 : Int) ≤ ((12 + b.length : Nat) : Int) ∧ ((12 + b.length : Nat) : Int) ≤ (s.length : Int) := by rw [hs]; omega
  have htk : (s.drop 0).take (4 - 0) = put4 g := ht
  have hT : (ck ((0 : Int) ≤ (4 : Int) ∧ (4 : Int) ≤ (s.length : Int)) <|
      (m60_journal_get ((s.drop 0).take (4 - 0))).bind fun get_1 =>
      bif (decide (0 < get_1)) then
        ck ((0 : Int) ≤ 10 ∧ 10 < (s.length : Int)) <|
        ck ((0 : Int) ≤ 12 ∧ (12 : Int) ≤ (IntKind.wrap .i64 (12 + ((s.getD 11 default).toNat : Int))) ∧ (IntKind.wrap .i64 (12 + ((s.getD 11 default).toNat : Int))) ≤ (s.length : Int)) <|
        (m63_journal_encode get_1 num (s.getD 10 default) ((s.drop 12).take ((IntKind.wrap .i64 (12 + ((s.getD 11 default).toNat : Int))).toNat - 12))).bind fun encode_1 =>
        (m62_bytes_Equal s encode_1).bind fun equal_1 =>
        some equal_1
      else
        some false) = some true := by
    rw [ck_eq c4, htk, (m60_eq (put4 g) (Nat.le_refl 4)).1, Option.bind_some, get_put hg', decide_eq_true (show (0 : Int) < (g : Int) by omega), cond_true, ck_eq c10, h11, hw, ck_eq c12]
    rw [show ((12 + b.length : Nat) : Int).toNat - 12 = b.length by omega, h10, hbd, m63_eq hn hb, ← hS, Option.bind_some]
    unfold m62_bytes_Equal
    rw [decide_eq_true rfl]; rfl
  rw [hT]
  simp only [ck_eq c10]
  rw [h11, h10, decide_eq_false (show ¬ (112 : Int) < (b.length : Int) by omega)]
  cases f <;> cases l
  · rw [show decide ((b.length : Int) < 112) = false from decide_eq_false (by have := hl rfl; omega), show decide ((b.length : Int) = 0) = false from decide_eq_false (by have := hf rfl; omega)]; rfl
  · rw [show decide ((b.length : Int) = 0) = false from decide_eq_false (by have := hf rfl; omega)]; rfl
  · rw [show decide ((b.length : Int) < 112) = false from decide_eq_false (by have := hl rfl; omega)]; rfl
  · rfl
/-- a sector of zeros is bad -/
theorem bad_zero (num : Nat) : m70_journal_good (List.replicate 128 0) (num : Int) = some false := by
  have : m70_journal_good (List.replicate 128 0) (num : Int) = some false := by kernel_rfl
  exact this
end Go.Fx



set_option linter.unusedVariables false
set_option linter.unusedSimpArgs false
set_option maxRecDepth 100000
set_option maxHeartbeats 0
namespace Go.Fx
open Go Go.RowKit Go.Proofs
end Go.Fx



/- JournalRoom, where what comes in is small. -/
set_option linter.unusedSimpArgs false
set_option linter.unusedVariables false
namespace Go.Fx
open Go Go.RowKit
/-- sectors of n bytes -/
def secN (n : Nat) : Nat := max 1 ((n + 111) / 112)
def usedN (l : List (List UInt8)) : Nat := (l.map fun b => secN b.length).sum
theorem sum_mem {l : List (List UInt8)} {b : List UInt8} (h : b ∈ l) : 1 + b.length ≤ (l.map fun b => 1 + b.length).sum := by
  induction l with
  | nil => cases h
  | cons x t ih =>
    simp only [List.map_cons, List.sum_cons]
    rcases List.mem_cons.1 h with rfl | h
    · omega
    · have := ih h; omega
theorem sum_len (l : List (List UInt8)) : l.length ≤ (l.map fun b => 1 + b.length).sum := by
  induction l with
  | nil => simp
  | cons x t ih => simp only [List.map_cons, List.sum_cons, List.length_cons]; omega
theorem usedN_app (l : List (List UInt8)) (b : List UInt8) : usedN (l ++ [b]) = usedN l + secN b.length := by simp [usedN]
theorem ones (b : List UInt8) : (b.map fun _ => 1).sum = b.length := by induction b <;> simp_all <;> omega
end Go.Fx



/- The records that are read off sectors. -/
set_option linter.unusedSimpArgs false
set_option linter.unusedVariables false
namespace Go.Fx
open Go Go.RowKit
/-- the sectors of a record -/
def pcs (g : Nat) : Nat → Bool → List UInt8 → Nat → List (List UInt8)
  | _, _, _, 0 => []
  | n, f, b, 1 => [enc g n (kd f true) b]
  | n, f, b, k + 2 => enc g n (kd f false) (b.take 112) :: pcs g (n + 1) false (b.drop 112) (k + 1)
theorem pcs_len (g : Nat) : ∀ (k n : Nat) (f : Bool) (b : List UInt8), (pcs g n f b k).length = k
  | 0, _, _, _ => rfl
  | 1, _, _, _ => rfl
  | k + 2, n, f, b => by show (pcs g (n + 1) false (b.drop 112) (k + 1)).length + 1 = _; rw [pcs_len g (k + 1)]
theorem secN_pos (n : Nat) : 1 ≤ secN n := by unfold secN; omega
theorem secN_one {n : Nat} (h : secN n = 1) : n ≤ 112 := by unfold secN at h; omega
theorem secN_two {n k : Nat} (h : secN n = k + 2) : 112 < n ∧ secN (n - 112) = k + 1 := by unfold secN at *; omega
section
variable {S : List (List UInt8)} {sf : Int → Int → Option (List (Int × List UInt8))}
theorem inner_bad {f n : Nat} {a last : Int} {acc : List UInt8} (hn : n < S.length) (hb : m70_journal_good S[n] (n : Int) = some false) :
    loop4 (m69_journal_records_1_B1 S sf) (f + 1) a last acc (n : Int) = some [] := by
  rw [loop4_succ]; unfold m69_journal_records_1_B1
  rw [decide_eq_true (ipos hn), cond_true, ck_eq (by omega)]
  simp only [jn_eq, Int.toNat_natCast, getD_len hn]
  rw [hb]; rfl
theorem kd1 (f l : Bool) : decide (((UInt8.ofNat (Go.bits .and .u8 ((kd f l).toNat : Int) 1).toNat).toNat : Int) ≠ 0) = f := by cases f <;> cases l <;> rfl
theorem kd2 (f l : Bool) : decide (((UInt8.ofNat (Go.bits .and .u8 ((kd f l).toNat : Int) 2).toNat).toNat : Int) ≠ 0) = l := by cases f <;> cases l <;> rfl
theorem inner_good {f a last n g : Nat} {fb l : Bool} {acc c : List UInt8} (hn : n < S.length) (hlim : S.length ≤ 5000) (hs : S[n] = enc g n (kd fb l) c) (hg : 0 < g) (hg' : g < 4294967296) (hc : c.length ≤ 112) (hl : l = false → c.length = 112) (hf : fb = false → 0 < c.length)
    (hfb : fb = decide (n = a)) (hat : a ≤ n) (h128 : ∀ s ∈ S, s.length = 128) (hh : getN ((S.getD a default).take 4) = g) (hlast : last ≤ g) (hacc : acc.length ≤ 1000000) :
    loop4 (m69_journal_records_1_B1 S sf) (f + 1) (a : Int) (last : Int) acc (n : Int) =
      bif l then yl ((n : Int) + 1, acc ++ c) (sf ((n : Int) + 1) (g : Int)) else loop4 (m69_journal_records_1_B1 S sf) f (a : Int) (last : Int) (acc ++ c) ((n : Int) + 1) := by
  rw [loop4_succ]
  generalize loop4 (m69_journal_records_1_B1 S sf) f = L
  unfold m69_journal_records_1_B1
  rw [decide_eq_true (ipos hn), cond_true, ck_eq (by omega)]
  have ha : a < S.length := by omega
  simp only [jn_eq, Int.toNat_natCast, getD_len hn]
  rw [getD_len ha] at hh
  have hal : (S.getD a default).length = 128 := by rw [getD_len ha]; exact h128 _ (List.getElem_mem ha)
  rw [hs, m70_enc hg hg' (by omega) hc hl hf, Option.bind_some]
  have l128 : (enc g n (kd fb l) c).length = 128 := enc_len hc
  have h11 : ((enc g n (kd fb l) c).getD 11 default).toNat = c.length := enc_11 hc
  have h10 : (enc g n (kd fb l) c).getD 10 default = kd fb l := rfl
  have hw : IntKind.wrap .i64 (12 + (c.length : Int)) = ((12 + c.length : Nat) : Int) := by rw [wrap_i64 (by omega) (by omega)]; omega
  have ht : ((enc g n (kd fb l) c).drop 0).take (4 - 0) = put4 g := rfl
  have hbody : ((enc g n (kd fb l) c).drop 12).take (((12 + c.length : Nat) : Int).toNat - 12) = c := by rw [show ((12 + c.length : Nat) : Int).toNat - 12 = c.length by omega]; exact enc_body
  have hwn : IntKind.wrap .i64 ((n : Int) + 1) = (n : Int) + 1 := wrapS (by omega)
  have c10 : (0 : Int) ≤ 10 ∧ 10 < ((enc g n (kd fb l) c).length : Int) := by rw [l128]; decide
  have c11 : (0 : Int) ≤ 11 ∧ 11 < ((enc g n (kd fb l) c).length : Int) := by rw [l128]; decide
  have c4 : (0 : Int) ≤ (4 : Int) ∧ (4 : Int) ≤ ((enc g n (kd fb l) c).length : Int) := by rw [l128]; decide
  have c4' : (0 : Int) ≤ (4 : Int) ∧ (4 : Int) ≤ ((S.getD a default).length : Int) := by rw [hal]; decide
  have ca : (0 : Int) ≤ (a : Int) ∧ (a : Int) < (S.length : Int) := by omega
  have c12 : (0 : Int) ≤ 12 ∧ (12 : Int) ≤ ((12 + c.length : Nat) : Int) ∧ ((12 + c.length : Nat) : Int) ≤ ((enc g n (kd fb l) c).length : Int) := by rw [l128]; omega
  have cc : (acc.length + c.length) * 1 ≤ 140737488355328 := by omega
  have e4 : m60_journal_get (put4 g) = some (g : Int) := by rw [(m60_eq (put4 g) (Nat.le_refl 4)).1, get_put hg']
  have hta : ((S.getD a default).drop 0).take (4 - 0) = (S[a]).take 4 := by rw [getD_len ha]; rfl
  have e5 : m60_journal_get (((S.getD a default).drop 0).take (4 - 0)) = some (g : Int) := by
    rw [hta, (m60_eq _ (by rw [List.length_take]; omega)).1, hh]
  have ebeq : (!(fb == decide ((n : Int) = (a : Int)))) = false := by
    have e : decide ((n : Int) = (a : Int)) = decide (n = a) := decide_eq_decide.2 (by omega)
    rw [hfb, e]; simp
  simp only [Bool.not_true, cond_false, ck_eq c10, ck_eq c11, ck_eq c4, ck_eq c4', ck_eq ca, h10, h11, hw, ht, hbody, kd1, kd2, e4, e5, Option.bind_some, ck_eq c12, ck_eq cc, ebeq, hwn, ne_eq, not_true_eq_false, decide_false]
  rw [decide_eq_false (show ¬ (g : Int) < (last : Int) by omega), cond_false]
theorem inner_rec {a last g : Nat} (hg : 0 < g) (hg' : g < 4294967296) (hlim : S.length ≤ 5000) (h128 : ∀ s ∈ S, s.length = 128) (hh : getN ((S.getD a default).take 4) = g) (hlast : last ≤ g) :
    ∀ (k f n : Nat) (fb : Bool) (b acc : List UInt8), k + 1 = secN b.length → (∀ j, j < k + 1 → S[n + j]? = (pcs g n fb b (k + 1))[j]?) → fb = decide (n = a) → (fb = false → 0 < b.length) → a ≤ n → k < f → acc.length + b.length ≤ 1000000 →
      loop4 (m69_journal_records_1_B1 S sf) f (a : Int) (last : Int) acc (n : Int) = yl (((n + (k + 1) : Nat) : Int), acc ++ b) (sf ((n + (k + 1) : Nat) : Int) (g : Int))
  | 0, f, n, fb, b, acc, hk, hp, hfb, hne, ha, hf, hacc => by
    obtain ⟨f, rfl⟩ : ∃ f', f = f' + 1 := ⟨f - 1, by omega⟩
    have h0 := hp 0 (by omega)
    obtain ⟨hn, hs⟩ := List.getElem?_eq_some_iff.1 (show S[n]? = some (enc g n (kd fb true) b) from h0)
    have hb := secN_one hk.symm
    rw [inner_good hn hlim hs hg hg' hb (by simp) hne hfb ha h128 hh hlast (by omega)]
    rfl
  | k + 1, f, n, fb, b, acc, hk, hp, hfb, hne, ha, hf, hacc => by
    obtain ⟨f, rfl⟩ : ∃ f', f = f' + 1 := ⟨f - 1, by omega⟩
    have h0 := hp 0 (by omega)
    obtain ⟨hn, hs⟩ := List.getElem?_eq_some_iff.1 (show S[n]? = some (enc g n (kd fb false) (b.take 112)) from h0)
    obtain ⟨hb, hk2⟩ := secN_two hk.symm
    have ht : (b.take 112).length = 112 := by rw [List.length_take]; omega
    rw [inner_good hn hlim hs hg hg' (by omega) (fun _ => ht) (fun _ => by omega) hfb ha h128 hh hlast (by omega), cond_false]
    have := inner_rec hg hg' hlim h128 hh hlast k f (n + 1) false (b.drop 112) (acc ++ b.take 112) (by rw [List.length_drop]; omega) (fun j hj => by have := hp (j + 1) (by omega); rw [show n + 1 + j = n + (j + 1) by omega, this]; rfl)
      (by rw [decide_eq_false]; omega) (fun _ => by rw [List.length_drop]; omega) (by omega) (by omega) (by simp only [List.length_append, List.length_drop, ht]; omega)
    rw [show (n : Int) + 1 = ((n + 1 : Nat) : Int) by omega, this, List.append_assoc, List.take_append_drop, show n + 1 + (k + 1) = n + (k + 1 + 1) by omega]
theorem inner_part {a last g : Nat} (hg : 0 < g) (hg' : g < 4294967296) (hlim : S.length ≤ 5000) (h128 : ∀ s ∈ S, s.length = 128) (hh : getN ((S.getD a default).take 4) = g) (hlast : last ≤ g) :
    ∀ (j k f n : Nat) (fb : Bool) (b acc : List UInt8), j < k → k = secN b.length → (∀ i, i < j → S[n + i]? = (pcs g n fb b k)[i]?) → (∃ s, S[n + j]? = some s ∧ m70_journal_good s ((n + j : Nat) : Int) = some false) → fb = decide (n = a) → (fb = false → 0 < b.length) → a ≤ n → j < f → acc.length + b.length ≤ 1000000 →
      loop4 (m69_journal_records_1_B1 S sf) f (a : Int) (last : Int) acc (n : Int) = some []
  | 0, k, f, n, fb, b, acc, hj, hk, hp, hbad, hfb, hne, ha, hf, hacc => by
    obtain ⟨f, rfl⟩ : ∃ f', f = f' + 1 := ⟨f - 1, by omega⟩
    obtain ⟨s, h1, h2⟩ := hbad
    obtain ⟨hn, hs⟩ := List.getElem?_eq_some_iff.1 (show S[n]? = some s from h1)
    exact inner_bad hn (by rw [hs]; exact h2)
  | j + 1, k, f, n, fb, b, acc, hj, hk, hp, hbad, hfb, hne, ha, hf, hacc => by
    obtain ⟨f, rfl⟩ : ∃ f', f = f' + 1 := ⟨f - 1, by omega⟩
    obtain ⟨k, rfl⟩ : ∃ k', k = k' + 2 := ⟨k - 2, by omega⟩
    have h0 := hp 0 (by omega)
    obtain ⟨hn, hs⟩ := List.getElem?_eq_some_iff.1 (show S[n]? = some (enc g n (kd fb false) (b.take 112)) from h0)
    obtain ⟨hb, hk2⟩ := secN_two hk.symm
    have ht : (b.take 112).length = 112 := by rw [List.length_take]; omega
    rw [inner_good hn hlim hs hg hg' (by omega) (fun _ => ht) (fun _ => by omega) hfb ha h128 hh hlast (by omega), cond_false, show (n : Int) + 1 = ((n + 1 : Nat) : Int) by omega]
    exact inner_part hg hg' hlim h128 hh hlast j (k + 1) f (n + 1) false (b.drop 112) (acc ++ b.take 112) (by omega) (by rw [List.length_drop]; omega) (fun i hi => by have := hp (i + 1) (by omega); rw [show n + 1 + i = n + (i + 1) by omega, this]; rfl)
      (by rw [show n + 1 + j = n + (j + 1) by omega]; exact hbad) (by rw [decide_eq_false]; omega) (fun _ => by rw [List.length_drop]; omega) (by omega) (by omega) (by simp only [List.length_append, List.length_drop, ht]; omega)
theorem inner_old {f a last : Nat} {acc : List UInt8} (ha : a < S.length) (hlim : S.length ≤ 5000) (h128 : ∀ s ∈ S, s.length = 128) (hold : getN ((S.getD a default).take 4) < last) :
    loop4 (m69_journal_records_1_B1 S sf) (f + 1) (a : Int) (last : Int) acc (a : Int) = some [] := by
  rw [loop4_succ]
  generalize loop4 (m69_journal_records_1_B1 S sf) f = L
  unfold m69_journal_records_1_B1
  rw [decide_eq_true (ipos ha), cond_true, ck_eq (by omega)]
  have hal : (S.getD a default).length = 128 := by rw [getD_len ha]; exact h128 _ (List.getElem_mem ha)
  simp only [jn_eq, Int.toNat_natCast]
  obtain ⟨r, h1, _⟩ := m70_eq hal a (by omega)
  rw [h1, Option.bind_some]
  cases r
  · rfl
  have c10 : (0 : Int) ≤ 10 ∧ 10 < ((S.getD a default).length : Int) := by rw [hal]; decide
  have c4 : (0 : Int) ≤ (4 : Int) ∧ (4 : Int) ≤ ((S.getD a default).length : Int) := by rw [hal]; decide
  have ca : (0 : Int) ≤ (a : Int) ∧ (a : Int) < (S.length : Int) := by omega
  have e5 : m60_journal_get (((S.getD a default).drop 0).take (4 - 0)) = some (getN ((S.getD a default).take 4) : Int) := by
    rw [(m60_eq _ (by rw [List.length_take]; omega)).1]; rfl
  simp only [Bool.not_true, cond_false, ck_eq c10, ck_eq c4, ck_eq ca, e5, Option.bind_some, ne_eq, not_true_eq_false, decide_false]
  rw [show decide ((getN ((S.getD a default).take 4) : Int) < (last : Int)) = true from decide_eq_true (by omega)]
  have key : ∀ q : Bool, (bif q then (some [] : Option (List (Int × List UInt8))) else some []) = some [] := by intro q; cases q <;> rfl
  exact key _
/-- nothing is read from here on -/
def Stops (S : List (List UInt8)) (u gl : Nat) : Prop := ∀ f, loop2 (m69_journal_records_1_B0 S) (f + 1) (u : Int) (gl : Int) = some []
theorem Stops.fin {gl : Nat} : Stops S S.length gl := by
  intro f
  rw [loop2_succ]; unfold m69_journal_records_1_B0
  rw [show ((S.length : Int) - (S.length : Int)).toNat + 1 = 0 + 1 by omega, loop4_succ]
  unfold m69_journal_records_1_B1
  rw [decide_eq_false (Int.lt_irrefl _)]; rfl
theorem Stops.old {u gl : Nat} (hu : u < S.length) (hlim : S.length ≤ 5000) (h128 : ∀ s ∈ S, s.length = 128) (hold : getN ((S.getD u default).take 4) < gl) : Stops S u gl := by
  intro f
  rw [loop2_succ]; unfold m69_journal_records_1_B0
  exact inner_old hu hlim h128 hold
theorem Stops.bad {u gl : Nat} {s : List UInt8} (hs : S[u]? = some s) (hb : m70_journal_good s (u : Int) = some false) : Stops S u gl := by
  intro f
  obtain ⟨hn, rfl⟩ := List.getElem?_eq_some_iff.1 hs
  rw [loop2_succ]; unfold m69_journal_records_1_B0
  exact inner_bad hn hb
theorem Stops.part {u gl g j : Nat} {b : List UInt8} (hg : 0 < g) (hg' : g < 4294967296) (hlim : S.length ≤ 5000) (h128 : ∀ s ∈ S, s.length = 128) (hlast : gl ≤ g) (hj : j < secN b.length) (hbl : b.length ≤ 1000000)
    (hp : ∀ i, i < j → S[u + i]? = (pcs g u true b (secN b.length))[i]?) (hbad : ∃ s, S[u + j]? = some s ∧ m70_journal_good s ((u + j : Nat) : Int) = some false) : Stops S u gl := by
  cases j with
  | zero => obtain ⟨s, h1, h2⟩ := hbad; exact Stops.bad h1 h2
  | succ j =>
    intro f
    rw [loop2_succ]; unfold m69_journal_records_1_B0
    obtain ⟨k, hk⟩ : ∃ k, secN b.length = k + 2 := ⟨secN b.length - 2, by omega⟩
    have h0 := hp 0 (by omega)
    rw [hk] at h0
    obtain ⟨hn, hs⟩ := List.getElem?_eq_some_iff.1 (show S[u]? = some (enc g u (kd true false) (b.take 112)) from h0)
    obtain ⟨s, h1, h2⟩ := hbad
    have hlt := (List.getElem?_eq_some_iff.1 h1).1
    exact inner_part hg hg' hlim h128 (by rw [getD_len hn, hs, enc_take4, get_put hg']) hlast (j + 1) _ _ u true b [] hj rfl hp ⟨s, h1, h2⟩ (by simp) (by simp) (Nat.le_refl _) (by omega) (by simpa using hbl)
end
/-- records that stand on sectors, from a sector on, none of an earlier generation; to what sector, and of what generation the last is -/
inductive Lay (S : List (List UInt8)) : Nat → Nat → List (List UInt8) → Nat → Nat → Prop
  | nil (a last : Nat) : Lay S a last [] a last
  | cons {a last g : Nat} {b : List UInt8} {bs : List (List UInt8)} {u gl : Nat} (hp : ∀ j, j < secN b.length → S[a + j]? = (pcs g a true b (secN b.length))[j]?) (hl : last ≤ g) (hg : 0 < g) (hg' : g < 4294967296) (t : Lay S (a + secN b.length) g bs u gl) : Lay S a last (b :: bs) u gl
section
variable {S S' : List (List UInt8)} {a last u gl : Nat} {bs : List (List UInt8)}
theorem pcs_head {g n k : Nat} {f : Bool} {b : List UInt8} : ∃ l c, (pcs g n f b (k + 1))[0]? = some (enc g n (kd f l) c) := by
  cases k with
  | zero => exact ⟨true, b, rfl⟩
  | succ k => exact ⟨false, b.take 112, rfl⟩
theorem Lay.use (h : Lay S a last bs u gl) : u = a + usedN bs := by
  induction h with
  | nil => simp [usedN]
  | cons hp hl hg hg' t ih => rw [ih]; simp [usedN]; omega
theorem Lay.lim (h : Lay S a last bs u gl) (ha : a ≤ S.length) : u ≤ S.length := by
  induction h with
  | nil => exact ha
  | @cons a last g b bs u gl hp hl hg hg' t ih =>
    refine ih ?_
    have hpos := secN_pos b.length
    have h1 := hp (secN b.length - 1) (by omega)
    have hlt : secN b.length - 1 < (pcs g a true b (secN b.length)).length := by rw [pcs_len]; omega
    rw [List.getElem?_eq_getElem hlt] at h1
    have := (List.getElem?_eq_some_iff.1 h1).1
    omega
theorem Lay.le (h : Lay S a last bs u gl) : a ≤ u ∧ bs.length ≤ u - a := by
  induction h with
  | nil => simp
  | @cons a last g b bs u gl hp hl hg hg' t ih => have := secN_pos b.length; simp only [List.length_cons]; omega
theorem Lay.congr (h : Lay S a last bs u gl) (hS : ∀ i, i < u → S'[i]? = S[i]?) : Lay S' a last bs u gl := by
  induction h with
  | nil => exact .nil _ _
  | @cons a last g b bs u gl hp hl hg hg' t ih =>
    exact .cons (fun j hj => by rw [hS _ (by have := t.le.1; omega)]; exact hp j hj) hl hg hg' (ih hS)
theorem Lay.append {bs' : List (List UInt8)} {u' gl' : Nat} (h : Lay S a last bs u gl) (h' : Lay S u gl bs' u' gl') : Lay S a last (bs ++ bs') u' gl' := by
  induction h with
  | nil => exact h'
  | cons hp hl hg hg' t ih => exact .cons hp hl hg hg' (ih h')
theorem Lay.gen {B : Nat} (h : Lay S a last bs u gl) (hl : last ≤ B) (hB : ∀ s ∈ S, getN (s.take 4) ≤ B) : gl ≤ B := by
  induction h with
  | nil => exact hl
  | @cons a last g b bs u gl hp hl' hg hg' t ih =>
    refine ih ?_
    obtain ⟨k, hk⟩ : ∃ k, secN b.length = k + 1 := ⟨secN b.length - 1, by have := secN_pos b.length; omega⟩
    have h1 := hp 0 (by omega)
    rw [hk] at h1
    obtain ⟨l, c, h2⟩ := pcs_head (g := g) (n := a) (k := k) (f := true) (b := b)
    rw [h2] at h1
    have := hB _ (List.mem_of_getElem? h1)
    rwa [enc_take4, get_put hg'] at this
theorem Lay.read (h : Lay S a last bs u gl) (hs : Stops S u gl) (hlim : S.length ≤ 5000) (h128 : ∀ s ∈ S, s.length = 128) : ∀ f, bs.length < f → ∃ ps, loop2 (m69_journal_records_1_B0 S) f (a : Int) (last : Int) = some ps ∧ ps.map Prod.snd = bs := by
  induction h with
  | nil => intro f hf; obtain ⟨f, rfl⟩ : ∃ f', f = f' + 1 := ⟨f - 1, by simp at hf; omega⟩; exact ⟨[], hs f, rfl⟩
  | @cons a last g b bs u gl hp hl hg hg' t ih =>
    intro f hf
    obtain ⟨f, rfl⟩ : ∃ f', f = f' + 1 := ⟨f - 1, by omega⟩
    obtain ⟨ps, h1, h2⟩ := ih hs f (by simp at hf; omega)
    obtain ⟨k, hk⟩ : ∃ k, secN b.length = k + 1 := ⟨secN b.length - 1, by have := secN_pos b.length; omega⟩
    have h0 := hp 0 (by omega)
    rw [hk] at h0
    obtain ⟨l, c, h3⟩ := pcs_head (g := g) (n := a) (k := k) (f := true) (b := b)
    rw [h3] at h0
    obtain ⟨hn, hs'⟩ := List.getElem?_eq_some_iff.1 (show S[a]? = some _ from h0)
    have hend : a + secN b.length ≤ S.length := by
      have h4 := hp (secN b.length - 1) (by omega)
      have hlt : secN b.length - 1 < (pcs g a true b (secN b.length)).length := by rw [pcs_len]; omega
      rw [List.getElem?_eq_getElem hlt] at h4
      have := (List.getElem?_eq_some_iff.1 h4).1
      omega
    have hbl : b.length ≤ 1000000 := by unfold secN at hend; omega
    rw [hk] at hp
    have := inner_rec (sf := loop2 (m69_journal_records_1_B0 S) f) hg hg' hlim h128 (by rw [getD_len hn, hs', enc_take4, get_put hg']) hl k (((S.length : Int) - (a : Int)).toNat + 1) a true b [] hk.symm hp (by simp) (by simp) (Nat.le_refl _) (by omega) (by simpa using hbl)
    refine ⟨(((a + (k + 1) : Nat) : Int), b) :: ps, ?_, by simp [h2]⟩
    rw [loop2_succ]
    unfold m69_journal_records_1_B0
    refine this.trans ?_
    rw [← hk, h1]; rfl
end
theorem open_rng : ∀ (ps : List (Int × List UInt8)) (acc : List (List UInt8)) (K : List (List UInt8) → Option (XJournal × Int)), acc.length + ps.length ≤ 5000 → rng1 m38_journal_Open_B0 K ps acc = K (acc ++ ps.map Prod.snd)
  | [], acc, K, _ => by rw [rng1_nil]; simp
  | p :: ps, acc, K, h => by
    rw [rng1_cons]
    simp only [List.length_cons] at h
    show ck _ _ = _
    rw [ck_eq (by simp; omega), open_rng ps (acc ++ [p.2]) K (by simp; omega)]; simp
theorem open_eq {d : XDisk} {bs : List (List UInt8)} {u gl : Nat} (hk : chk d = true) (hst : d.stopped = false) (hpn : d.pending = []) (h : Lay d.sectors 0 0 bs u gl) (hs : Stops d.sectors u gl) : m38_journal_Open d = some (⟨bs, (d.sectors.length : Int), (bs.length : Int)⟩, 0) := by
  obtain ⟨p1, p2, p3, p4, p5, p6, p7⟩ := chk_props hk
  have hu := h.lim (by omega)
  have hb := h.le.2
  obtain ⟨ps, h1, h2⟩ := h.read hs (by omega) p7 1000000 (by omega)
  have hpl : ps.length = bs.length := by rw [← h2]; simp
  unfold m38_journal_Open
  rw [m18_eq d (chk_few hk), hk, hst, hpn]
  have hm : m59_journal_records d.sectors = some ps := by
    unfold m59_journal_records m69_journal_records_1
    have h1' : loop2 (m69_journal_records_1_B0 d.sectors) 1000000 0 0 = some ps := h1
    rw [h1']; rfl
  rw [hm]
  simp only [Option.bind_some, jn_eq]
  rw [open_rng ps [] _ (by simp; omega), List.nil_append, h2]
  rfl
end Go.Fx



/- What a sync writes, and how the sectors read behind it. -/
set_option linter.unusedSimpArgs false
set_option linter.unusedVariables false
namespace Go.Fx
open Go Go.RowKit
/-- the generation that comes -/
def genS (G : Nat) : List (List UInt8) → Nat
  | [] => G
  | s :: t => genS (max (max G (getN (s.take 4) + 1)) (getN (s.drop 124) + 1)) t
theorem genS_ge : ∀ (S : List (List UInt8)) (G : Nat), G ≤ genS G S ∧ ∀ s ∈ S, getN (s.take 4) < genS G S ∧ getN (s.drop 124) < genS G S
  | [], G => ⟨Nat.le_refl _, fun _ h => by cases h⟩
  | s :: t, G => by
    obtain ⟨h1, h2⟩ := genS_ge t (max (max G (getN (s.take 4) + 1)) (getN (s.drop 124) + 1))
    refine ⟨?_, fun x hx => ?_⟩
    · show G ≤ genS _ t; omega
    · rcases List.mem_cons.1 hx with rfl | hx
      · show _ < genS _ t ∧ _ < genS _ t; omega
      · exact h2 x hx
theorem genS_le {B : Nat} : ∀ (S : List (List UInt8)) (G : Nat), G ≤ B + 1 → (∀ s ∈ S, getN (s.take 4) ≤ B ∧ getN (s.drop 124) ≤ B) → genS G S ≤ B + 1
  | [], G, h, _ => h
  | s :: t, G, h, hs => genS_le t _ (by have := hs s (by simp); omega) fun x hx => hs x (by simp [hx])
/-- writes one behind the other -/
def wrs : Nat → List (List UInt8) → List XWrite
  | _, [] => []
  | n, s :: t => ⟨(n : Int), s⟩ :: wrs (n + 1) t
theorem wrs_len : ∀ (l : List (List UInt8)) (n : Nat), (wrs n l).length = l.length
  | [], _ => rfl
  | _ :: t, n => by simp [wrs, wrs_len t]
theorem wrs_app : ∀ (l m : List (List UInt8)) (n : Nat), wrs n (l ++ m) = wrs n l ++ wrs (n + l.length) m
  | [], _, _ => by simp [wrs]
  | s :: t, m, n => by
    show _ :: wrs (n + 1) (t ++ m) = _
    rw [wrs_app t m (n + 1), List.length_cons, show n + 1 + t.length = n + (t.length + 1) by omega]; rfl
theorem wrs_mem {l : List (List UInt8)} {n : Nat} {w : XWrite} (h : w ∈ wrs n l) : (n : Int) ≤ w.at_ ∧ w.at_ < (n : Int) + l.length ∧ w.data ∈ l := by
  induction l generalizing n with
  | nil => cases h
  | cons s t ih =>
    rcases List.mem_cons.1 h with rfl | h
    · simp; omega
    · obtain ⟨h1, h2, h3⟩ := ih h
      simp only [List.length_cons, List.mem_cons]
      exact ⟨by omega, by omega, .inr h3⟩
theorem perf_wrs : ∀ (l : List (List UInt8)) (S : List (List UInt8)) (n i : Nat), n + l.length ≤ S.length → (perf S (wrs n l))[i]? = if n ≤ i ∧ i < n + l.length then l[i - n]? else S[i]?
  | [], S, n, i, h => by rw [if_neg (by rw [List.length_nil]; omega)]; rfl
  | s :: t, S, n, i, h => by
    simp only [List.length_cons] at h
    show (perf (S.set (n : Int).toNat s) (wrs (n + 1) t))[i]? = _
    rw [perf_wrs t _ (n + 1) i (by simp; omega), Int.toNat_natCast]
    simp only [List.length_cons]
    by_cases h1 : n + 1 ≤ i ∧ i < n + 1 + t.length
    · rw [if_pos h1, if_pos (by omega), show i - n = (i - (n + 1)) + 1 by omega]; rfl
    · rw [if_neg h1]
      by_cases h2 : i = n
      · subst h2; rw [if_pos (by omega), List.getElem?_set_self (by omega), Nat.sub_self]; rfl
      · rw [if_neg (by omega), List.getElem?_set_ne (fun e => h2 e.symm)]
/-- the sectors of further records -/
def news (g : Nat) : Nat → List (List UInt8) → List (List UInt8)
  | _, [] => []
  | n, b :: bs => pcs g n true b (secN b.length) ++ news g (n + secN b.length) bs
theorem news_len (g : Nat) : ∀ (bs : List (List UInt8)) (n : Nat), (news g n bs).length = usedN bs
  | [], _ => rfl
  | b :: bs, n => by
    show (pcs g n true b (secN b.length) ++ news g (n + secN b.length) bs).length = _
    rw [List.length_append, pcs_len, news_len g bs]; simp [usedN]
theorem pcs_mem {g : Nat} : ∀ (k n : Nat) (f : Bool) (b s : List UInt8), k = secN b.length → s ∈ pcs g n f b k → ∃ m kk c, s = enc g m kk c ∧ c.length ≤ 112
  | 0, _, _, _, _, _, h => by cases h
  | 1, n, f, b, s, hk, h => by
    rcases List.mem_singleton.1 h with rfl
    exact ⟨n, _, b, rfl, secN_one hk.symm⟩
  | k + 2, n, f, b, s, hk, h => by
    rcases List.mem_cons.1 h with rfl | h
    · exact ⟨n, _, b.take 112, rfl, by rw [List.length_take]; omega⟩
    · exact pcs_mem (k + 1) (n + 1) false (b.drop 112) s (by rw [List.length_drop]; exact (secN_two hk.symm).2.symm) h
theorem pcs_at {g : Nat} : ∀ (k n : Nat) (f : Bool) (b : List UInt8) (j : Nat) (h : j < (pcs g n f b k).length), k = secN b.length → ∃ kk c, (pcs g n f b k)[j] = enc g (n + j) kk c ∧ c.length ≤ 112
  | 0, _, _, _, j, h, _ => by exact absurd h (Nat.not_lt_zero _)
  | 1, n, f, b, 0, h, hk => ⟨_, b, rfl, secN_one hk.symm⟩
  | 1, n, f, b, j + 1, h, hk => by exact absurd h (by show ¬ j + 1 < 1; omega)
  | k + 2, n, f, b, 0, h, hk => ⟨_, b.take 112, rfl, by rw [List.length_take]; omega⟩
  | k + 2, n, f, b, j + 1, h, hk => by
    have hj : j < (pcs g (n + 1) false (b.drop 112) (k + 1)).length := by simpa [pcs] using h
    obtain ⟨kk, c, h1, h2⟩ := pcs_at (k + 1) (n + 1) false (b.drop 112) j hj (by rw [List.length_drop]; exact (secN_two hk.symm).2.symm)
    exact ⟨kk, c, by show (pcs g (n + 1) false (b.drop 112) (k + 1))[j] = _; rw [h1, show n + 1 + j = n + (j + 1) by omega], h2⟩
theorem news_at {g : Nat} : ∀ (bs : List (List UInt8)) (n j : Nat) (h : j < (news g n bs).length), ∃ kk c, (news g n bs)[j] = enc g (n + j) kk c ∧ c.length ≤ 112
  | [], _, j, h => by exact absurd h (Nat.not_lt_zero _)
  | b :: bs, n, j, h => by
    simp only [news]
    by_cases hj : j < (pcs g n true b (secN b.length)).length
    · rw [List.getElem_append_left hj]; exact pcs_at _ n true b j hj rfl
    · rw [List.getElem_append_right (by omega)]
      obtain ⟨kk, c, h1, h2⟩ := news_at (g := g) bs (n + secN b.length) (j - (pcs g n true b (secN b.length)).length) (by simp only [news, List.length_append] at h; omega)
      rw [pcs_len] at hj
      refine ⟨kk, c, h1.trans ?_, h2⟩
      rw [pcs_len, show n + secN b.length + (j - secN b.length) = n + j by omega]
theorem news_mem {g n : Nat} {bs : List (List UInt8)} {s : List UInt8} (h : s ∈ news g n bs) : ∃ m kk c, s = enc g m kk c ∧ c.length ≤ 112 := by
  obtain ⟨j, hj, rfl⟩ := List.getElem_of_mem h
  obtain ⟨kk, c, h1, h2⟩ := news_at bs n j hj
  exact ⟨_, kk, c, h1, h2⟩
/-- where all of it stands -/
theorem lay_news {S : List (List UInt8)} {g : Nat} (hg : 0 < g) (hg' : g < 4294967296) : ∀ (bs : List (List UInt8)) (u last : Nat), last ≤ g → (∀ j, j < usedN bs → S[u + j]? = (news g u bs)[j]?) →
    ∃ gl, Lay S u last bs (u + usedN bs) gl ∧ (bs = [] ∧ gl = last ∨ gl = g)
  | [], u, last, hl, _ => ⟨last, by simpa [usedN] using Lay.nil u last, .inl ⟨rfl, rfl⟩⟩
  | b :: bs, u, last, hl, hS => by
    have hu : usedN (b :: bs) = secN b.length + usedN bs := by simp [usedN]
    rw [hu] at hS ⊢
    obtain ⟨gl, h1, h2⟩ := lay_news hg hg' bs (u + secN b.length) g (Nat.le_refl _) fun j hj => by
      have := hS (secN b.length + j) (by omega)
      rw [show u + secN b.length + j = u + (secN b.length + j) by omega, this]
      simp only [news]
      rw [List.getElem?_append_right (by rw [pcs_len]; omega), pcs_len, Nat.add_sub_cancel_left]
    refine ⟨gl, .cons (fun j hj => ?_) hl hg hg' (by rw [← Nat.add_assoc]; exact h1), .inr (h2.elim (fun h => h.2) id)⟩
    rw [hS j (by omega)]
    simp only [news]
    rw [List.getElem?_append_left (by rw [pcs_len]; exact hj)]
/-- sectors that bear these records -/
structure Jd (S : List (List UInt8)) (recs : List (List UInt8)) (B : Nat) : Prop where
  one : 1 ≤ S.length
  len : S.length ≤ 40
  all : ∀ s ∈ S, s.length = 128
  gens : ∀ s ∈ S, getN (s.take 4) ≤ B ∧ getN (s.drop 124) ≤ B
  lay : ∃ gl, Lay S 0 0 recs (usedN recs) gl ∧ Stops S (usedN recs) gl
theorem Jd.start {m : Nat} (h1 : 1 ≤ m) (h2 : m ≤ 40) : Jd (List.replicate m (List.replicate 128 0)) [] 0 := by
  refine ⟨by simpa using h1, by simpa using h2, fun s hs => ?_, fun s hs => ?_, 0, Lay.nil 0 0, ?_⟩
  · rw [List.eq_of_mem_replicate hs]; rfl
  · rw [List.eq_of_mem_replicate hs]; decide
  · refine Stops.bad (s := List.replicate 128 0) ?_ (bad_zero 0)
    show (List.replicate m _)[0]? = _
    rw [List.getElem?_replicate, if_pos (by omega)]
theorem Jd.fits {S recs : List (List UInt8)} {B : Nat} (h : Jd S recs B) : usedN recs ≤ S.length := by
  obtain ⟨gl, h1, _⟩ := h.lay; exact h1.lim (Nat.zero_le _)
theorem usedN_two (a b : List (List UInt8)) : usedN (a ++ b) = usedN a + usedN b := by simp [usedN]
section
variable {S kept new : List (List UInt8)} {B : Nat}
theorem Jd.sync (h : Jd S kept B) (hB : B + 1 < 4294967296) (hfit : usedN kept + usedN new ≤ S.length) (hne : new ≠ []) :
    Jd (perf S (wrs (usedN kept) (news (genS 1 S) (usedN kept) new))) (kept ++ new) (B + 1) := by
  obtain ⟨G, hG⟩ : ∃ G, G = genS 1 S := ⟨_, rfl⟩
  rw [← hG]
  obtain ⟨g1, g2⟩ := genS_ge S 1
  rw [← hG] at g1 g2
  have g3 : G ≤ B + 1 := by rw [hG]; exact genS_le S 1 (by omega) h.gens
  have hN := news_len G new (usedN kept)
  have hlen : (perf S (wrs (usedN kept) (news G (usedN kept) new))).length = S.length := perf_len _ _
  have hget : ∀ i, (perf S (wrs (usedN kept) (news G (usedN kept) new)))[i]? = if usedN kept ≤ i ∧ i < usedN kept + usedN new then (news G (usedN kept) new)[i - usedN kept]? else S[i]? := fun i => by rw [perf_wrs _ _ _ _ (by omega), hN]
  have hall : ∀ s ∈ perf S (wrs (usedN kept) (news G (usedN kept) new)), s.length = 128 ∧ getN (s.take 4) ≤ B + 1 ∧ getN (s.drop 124) ≤ B + 1 := by
    intro s hs
    obtain ⟨i, hi⟩ := List.mem_iff_getElem?.1 hs
    rw [hget] at hi
    split at hi
    · obtain ⟨m, kk, c, rfl, hc⟩ := news_mem (List.mem_of_getElem? hi)
      refine ⟨enc_len hc, ?_, ?_⟩
      · rw [enc_take4, get_put (by omega)]; exact g3
      · rw [enc_drop124 hc, get_put (by omega)]; exact g3
    · have hm := List.mem_of_getElem? hi
      have := h.gens s hm
      exact ⟨h.all s hm, by omega, by omega⟩
  obtain ⟨gl, l1, l2⟩ := h.lay
  have hgl : gl ≤ B := l1.gen (Nat.zero_le _) fun s hs => (h.gens s hs).1
  have hgl' : gl ≤ G := l1.gen (Nat.zero_le _) fun s hs => Nat.le_of_lt (g2 s hs).1
  obtain ⟨gl2, n1, n2⟩ := lay_news (S := perf S (wrs (usedN kept) (news G (usedN kept) new))) (g := G) (by omega) (by omega) new (usedN kept) gl hgl' fun j hj => by
    rw [hget, if_pos (by omega), Nat.add_sub_cancel_left]
  have n3 : gl2 = G := n2.elim (fun e => absurd e.1 hne) id
  subst n3
  refine ⟨by rw [hlen]; exact h.one, by rw [hlen]; exact h.len, fun s hs => (hall s hs).1, fun s hs => (hall s hs).2, gl2, ?_, ?_⟩
  · rw [usedN_two]
    refine Lay.append (l1.congr fun i hi => by rw [hget, if_neg (by omega)]) n1
  · rw [usedN_two]
    by_cases he : usedN kept + usedN new = S.length
    · rw [he, ← hlen]; exact Stops.fin
    · have hlt : usedN kept + usedN new < S.length := by omega
      refine Stops.old (by rw [hlen]; exact hlt) (by rw [hlen]; have := h.len; omega) (fun s hs => (hall s hs).1) ?_
      have e : (perf S (wrs (usedN kept) (news gl2 (usedN kept) new))).getD (usedN kept + usedN new) default = S[usedN kept + usedN new] := by
        rw [List.getD_eq_getElem?_getD, hget, if_neg (by omega), List.getElem?_eq_getElem hlt]; rfl
      rw [e]; exact (g2 _ (List.getElem_mem hlt)).1
end
end Go.Fx



/- What Append and Sync answer, on journals that fit. -/
set_option linter.unusedSimpArgs false
set_option linter.unusedVariables false
namespace Go.Fx
open Go Go.RowKit
theorem secI_eq {n : Nat} (h : n ≤ 4611686018427387904) : secI (n : Int) = (secN n : Int) := by
  unfold secI secN
  rw [wrap_i64 (m := (n : Int) + 112) (by omega) (by omega), wrap_i64 (m := (n : Int) + 112 - 1) (by omega) (by omega)]
  have e : ((n : Int) + 112 - 1).tdiv 112 = (((n + 111) / 112 : Nat) : Int) := by
    rw [show (n : Int) + 112 - 1 = ((n + 111 : Nat) : Int) by omega]; rfl
  rw [e, wrap_i64 (by omega) (by omega)]
  omega
theorem usedF_fit : ∀ (l : List (List UInt8)) (s : Nat), s + usedN l ≤ 1000000 → usedF (s : Int) l = ((s + usedN l : Nat) : Int)
  | [], s, _ => by simp [usedF, usedN]
  | b :: t, s, h => by
    rw [show usedN (b :: t) = secN b.length + usedN t by simp [usedN]] at h ⊢
    have hb : b.length ≤ 4611686018427387904 := by unfold secN at h; omega
    unfold usedF
    rw [secI_eq hb, wrap_i64 (by omega) (by omega), show (s : Int) + (secN b.length : Int) = ((s + secN b.length : Nat) : Int) by omega, usedF_fit t (s + secN b.length) (by omega), Nat.add_assoc]
theorem usedF_fit0 {l : List (List UInt8)} (h : usedN l ≤ 1000000) : usedF 0 l = (usedN l : Int) := by
  have := usedF_fit l 0 (by omega); simpa using this
theorem usedN_len (l : List (List UInt8)) : l.length ≤ usedN l := by
  induction l with
  | nil => simp
  | cons b t ih => rw [show usedN (b :: t) = secN b.length + usedN t by simp [usedN]]; have := secN_pos b.length; simp only [List.length_cons]; omega
/-- a journal that fits its sectors -/
structure Fit (m : Nat) (recs : List (List UInt8)) (s : Int) : Prop where
  one : 1 ≤ m
  len : m ≤ 40
  use : usedN recs ≤ m
  s0 : 0 ≤ s
  s1 : s ≤ (recs.length : Int)
theorem Fit.good {m : Nat} {recs : List (List UInt8)} {s : Int} (h : Fit m recs s) : badJ ⟨recs, (m : Int), s⟩ = false := by
  obtain ⟨h1, h2, h3, h4, h5⟩ := h
  unfold badJ
  simp only [usedF_fit0 (show usedN recs ≤ 1000000 by omega), Bool.or_eq_false_iff, decide_eq_false_iff_not]
  omega
/-- a record put behind the others, where it fits -/
def addN (m : Nat) (recs : List (List UInt8)) (b : List UInt8) : List (List UInt8) := if usedN recs + secN b.length ≤ m then recs ++ [b] else recs
theorem app_yes {m : Nat} {recs : List (List UInt8)} {s : Int} {b : List UInt8} (h : Fit m recs s) (hb : b.length ≤ 140737488351232) (hf : usedN recs + secN b.length ≤ m) : m30_journal_Append ⟨recs, (m : Int), s⟩ b = some (⟨recs ++ [b], (m : Int), s⟩, 0) := by
  have hu := usedN_len recs
  have h3 := h.use; have h2 := h.len
  rw [m30_eq _ _ (by simp only; omega) hb]
  unfold appJ
  rw [h.good, cond_false]
  simp only
  rw [usedF_fit0 (by omega), wrap_i64 (by omega) (by omega), secI_eq (by omega), decide_eq_false (by omega)]; rfl
theorem app_no {m : Nat} {recs : List (List UInt8)} {s : Int} {b : List UInt8} (h : Fit m recs s) (hb : b.length ≤ 140737488351232) (hf : ¬ usedN recs + secN b.length ≤ m) : m30_journal_Append ⟨recs, (m : Int), s⟩ b = some (⟨[], 0, 0⟩, 2) := by
  have hu := usedN_len recs
  have h3 := h.use; have h2 := h.len
  rw [m30_eq _ _ (by simp only; omega) hb]
  unfold appJ
  rw [h.good, cond_false]
  simp only
  rw [usedF_fit0 (by omega), wrap_i64 (by omega) (by omega), secI_eq (by omega), decide_eq_true (by omega)]; rfl
theorem addN_fit {m : Nat} {recs : List (List UInt8)} {s : Int} {b : List UInt8} (h : Fit m recs s) : Fit m (addN m recs b) s ∧ recs.length ≤ (addN m recs b).length ∧ recs <+: addN m recs b := by
  obtain ⟨h1, h2, h3, h4, h5⟩ := h
  unfold addN
  split
  · rename_i hf
    exact ⟨⟨h1, h2, by rw [usedN_app]; exact hf, h4, by simp; omega⟩, by simp, List.prefix_append _ _⟩
  · exact ⟨⟨h1, h2, h3, h4, h5⟩, Nat.le_refl _, List.prefix_refl _⟩
theorem m61_refl (a : List (List UInt8)) (ha : a.length < 9223372036854775807) : m61_slices_EqualFuncbyte_byte_byte_byte_ a a (fun x y => m62_bytes_Equal x y) = some true := by
  unfold m61_slices_EqualFuncbyte_byte_byte_byte_
  rw [decide_eq_false (by simp), cond_false]
  refine up_list0 (B := m61_slices_EqualFuncbyte_byte_byte_byte__B0 a a _) (fun _ => some true) a ha ?_ ?_ (by omega)
  · intro sf; unfold m61_slices_EqualFuncbyte_byte_byte_byte__B0; rw [decide_eq_false (Int.lt_irrefl _)]; rfl
  · intro sf i x t h1 h2 h3 ih
    unfold m61_slices_EqualFuncbyte_byte_byte_byte__B0
    rw [decide_eq_true (ipos h1), cond_true, ck_eq (by omega), ck_eq (by omega)]
    show (some (decide (a.getD (i : Int).toNat default = a.getD (i : Int).toNat default))).bind _ = _
    rw [decide_eq_true rfl, Option.bind_some, h3, ih]; rfl
section
variable {S kept new : List (List UInt8)} {B : Nat} {left : Int}
/-- a disk with writes that wait -/
def pen (S : List (List UInt8)) (p : List XWrite) (left : Int) : XDisk := ⟨S, p, left, false⟩
theorem pen_chk {p : List XWrite} (h1 : 1 ≤ S.length) (h2 : S.length ≤ 40) (h7 : ∀ s ∈ S, s.length = 128) (hl : -1 ≤ left) (hl' : left ≤ 65536) (hp : p.length ≤ 100) (hw : ∀ w ∈ p, 0 ≤ w.at_ ∧ w.at_ < (S.length : Int) ∧ w.data.length = 128) : chk (pen S p left) = true :=
  chk_of h1 (by show S.length ≤ 4096; omega) (by show p.length ≤ 4096; omega) hl hl' hw h7
theorem write_one {p : List XWrite} {n : Nat} {s : List UInt8} (h1 : 1 ≤ S.length) (h2 : S.length ≤ 40) (h7 : ∀ s ∈ S, s.length = 128) (hl : -1 ≤ left) (hl' : left ≤ 65536) (hp : p.length ≤ 100) (hw : ∀ w ∈ p, 0 ≤ w.at_ ∧ w.at_ < (S.length : Int) ∧ w.data.length = 128)
    (hn : n < S.length) (hs : s.length = 128) : m23_disk_Write (pen S p left) (n : Int) s = some (pen S (p ++ [⟨(n : Int), s⟩]) left, 0) := by
  have := pen_chk h1 h2 h7 hl hl' hp hw
  rw [wr_ok (chk_few this) this rfl (by omega) (by show (n : Int) < (S.length : Int); omega) (by show p.length ≠ 4096; omega) (by omega)]
  unfold wr; rw [pad_full hs]; rfl
/-- the sectors of one record are written -/
theorem wr_rec {G : Nat} {sf : Int → Int → List (List UInt8) → List XWrite → Int → Bool → Option (XJournal × XDisk × Int)} {v : Int} (h1 : 1 ≤ S.length) (h2 : S.length ≤ 40) (h7 : ∀ s ∈ S, s.length = 128) (hl : -1 ≤ left) (hl' : left ≤ 65536) :
    ∀ (k f n : Nat) (fb : Bool) (b : List UInt8) (p : List XWrite), k + 1 = secN b.length → n + (k + 1) ≤ S.length → p.length + (k + 1) ≤ 100 → (∀ w ∈ p, 0 ≤ w.at_ ∧ w.at_ < (S.length : Int) ∧ w.data.length = 128) → k + 1 < f →
      loop8 (m39_journal_Sync_B2 (G : Int) v sf) f (n : Int) b (kd fb false) ((k + 1 : Nat) : Int) S p left false = sf ((n + (k + 1) : Nat) : Int) (IntKind.wrap .i64 (v + 1)) S (p ++ wrs n (pcs G n fb b (k + 1))) left false
  | 0, f, n, fb, b, p, hk, hn, hp, hw, hf => by
    obtain ⟨f, rfl⟩ : ∃ f', f = f' + 2 := ⟨f - 2, by omega⟩
    have hb := secN_one hk.symm
    have hm : (min (b.length : Int) 112).toNat = b.length := by omega
    have hkd : UInt8.ofNat (Go.bits .or .u8 ((kd fb false).toNat : Int) 2).toNat = kd fb true := by cases fb <;> rfl
    rw [loop8_succ]
    generalize hL : loop8 (m39_journal_Sync_B2 (G : Int) v sf) (f + 1) = L
    unfold m39_journal_Sync_B2
    rw [decide_eq_true (by decide), cond_true, decide_eq_true (by rfl), cond_true, ck_eq (by omega), hm, hkd, Nat.sub_zero, List.drop_zero, List.take_length, m63_eq (by omega) hb, Option.bind_some]
    rw [show (⟨S, p, left, false⟩ : XDisk) = pen S p left from rfl, write_one h1 h2 h7 hl hl' (by omega) hw (by omega) (enc_len hb), Option.bind_some]
    simp only [ne_eq, not_true_eq_false, decide_false, cond_false, pen]
    rw [ck_eq (by omega), wrapS (by omega), ← hL, loop8_succ]
    unfold m39_journal_Sync_B2
    rw [decide_eq_false (show ¬ (0 : Int) < IntKind.wrap .i64 (((0 + 1 : Nat) : Int) - 1) by decide), cond_false]
    simp only [Nat.zero_add, pcs, wrs, Int.natCast_add, Int.natCast_one]
  | k + 1, f, n, fb, b, p, hk, hn, hp, hw, hf => by
    obtain ⟨f, rfl⟩ : ∃ f', f = f' + 1 := ⟨f - 1, by omega⟩
    obtain ⟨hb, hk2⟩ := secN_two hk.symm
    have ht : (b.take 112).length = 112 := by rw [List.length_take]; omega
    have hm : (min (b.length : Int) 112).toNat = 112 := by omega
    rw [loop8_succ]
    generalize hL : loop8 (m39_journal_Sync_B2 (G : Int) v sf) f = L
    unfold m39_journal_Sync_B2
    rw [decide_eq_true (by omega), cond_true, decide_eq_false (by omega), cond_false, ck_eq (by omega), hm, Nat.sub_zero, List.drop_zero, m63_eq (by omega) (by omega), Option.bind_some]
    rw [show (⟨S, p, left, false⟩ : XDisk) = pen S p left from rfl, write_one h1 h2 h7 hl hl' (by omega) hw (by omega) (enc_len (by omega)), Option.bind_some]
    simp only [ne_eq, not_true_eq_false, decide_false, cond_false, pen]
    have hd : (b.drop 112).take (b.length - 112) = b.drop 112 := by rw [← List.length_drop]; exact List.take_length
    rw [ck_eq (by omega), wrapS (by omega), hd, ← hL, show (n : Int) + 1 = ((n + 1 : Nat) : Int) by omega, show IntKind.wrap .i64 (((k + 1 + 1 : Nat) : Int) - 1) = ((k + 1 : Nat) : Int) by rw [wrap_i64 (by omega) (by omega)]; omega]
    have := wr_rec (G := G) (sf := sf) (v := v) h1 h2 h7 hl hl' k f (n + 1) false (b.drop 112) (p ++ [⟨(n : Int), enc G n (kd fb false) (b.take 112)⟩]) (by rw [List.length_drop]; omega) (by omega) (by simp; omega) (fun w hw' => by
      rcases List.mem_append.1 hw' with h | h
      · exact hw w h
      · rw [List.mem_singleton.1 h]; exact ⟨by simp, by simp only; omega, enc_len (by omega)⟩) (by omega)
    refine this.trans ?_
    rw [show n + 1 + (k + 1) = n + (k + 1 + 1) by omega]
    simp [pcs, wrs]
/-- what a sync comes to, when all has been written -/
def endS (l : XJournal) (D : XDisk) : Option (XJournal × XDisk × Int) :=
  (m25_disk_Sync D).bind fun sync_1 =>
    bif (decide (sync_1.2 ≠ 0)) then
      some ((⟨([] : List (List UInt8)), 0, 0⟩ : XJournal), sync_1.1, sync_1.2)
    else
      some ((⟨l.records, l.many, (l.records.length : Int)⟩ : XJournal), sync_1.1, 0)
theorem wr_all {G : Nat} {l : XJournal} {m : Nat} (h1 : 1 ≤ S.length) (h2 : S.length ≤ 40) (h7 : ∀ s ∈ S, s.length = 128) (hl : -1 ≤ left) (hl' : left ≤ 65536) (hs : l.synced.toNat = m) (hnew : l.records.drop m = new) (u : Nat) (hu : u + usedN new ≤ S.length) (f : Nat) (hf : new.length < f) :
    loop6 (m39_journal_Sync_B1 l (G : Int)) f (u : Int) 0 S [] left false = endS l (pen S (wrs u (news G u new)) left) := by
  have hrest : (l.records.drop l.synced.toNat).take (l.records.length - l.synced.toNat) = new := by rw [hs, hnew, ← hnew, ← List.length_drop]; exact List.take_length
  have hlen := usedN_len new
  have key : ∀ (t : List (List UInt8)) (i f u : Nat) (p : List XWrite), new.drop i = t → i ≤ new.length → t.length < f → u + usedN t ≤ S.length → p.length + usedN t ≤ 100 → (∀ w ∈ p, 0 ≤ w.at_ ∧ w.at_ < (S.length : Int) ∧ w.data.length = 128) →
      loop6 (m39_journal_Sync_B1 l (G : Int)) f (u : Int) (i : Int) S p left false = endS l (pen S (p ++ wrs u (news G u t)) left) := by
    intro t
    induction t with
    | nil =>
      intro i f u p hd hi hf hu hp hw
      have he : new.length ≤ i := by have := congrArg List.length hd; simp at this; omega
      obtain ⟨f, rfl⟩ : ∃ f', f = f' + 1 := ⟨f - 1, by simp at hf; omega⟩
      rw [loop6_succ]; unfold m39_journal_Sync_B1
      rw [hrest, decide_eq_false (by omega), cond_false]
      simp only [news, wrs, List.append_nil]; rfl
    | cons b t ih =>
      intro i f u p hd hi hf hu hp hw
      obtain ⟨f, rfl⟩ : ∃ f', f = f' + 1 := ⟨f - 1, by simp at hf; omega⟩
      have hlt : i < new.length := by have := congrArg List.length hd; simp at this; omega
      have hx : new[i] = b := by rw [List.drop_eq_getElem_cons hlt] at hd; exact (List.cons.inj hd).1
      have ht : new.drop (i + 1) = t := by rw [List.drop_eq_getElem_cons hlt] at hd; exact (List.cons.inj hd).2
      have hub : usedN (b :: t) = secN b.length + usedN t := by simp [usedN]
      rw [hub] at hu hp
      obtain ⟨k, hk⟩ : ∃ k, secN b.length = k + 1 := ⟨secN b.length - 1, by have := secN_pos b.length; omega⟩
      rw [loop6_succ]
      generalize hL : loop6 (m39_journal_Sync_B1 l (G : Int)) f = L
      unfold m39_journal_Sync_B1
      rw [hrest, decide_eq_true (ipos hlt), cond_true, ck_eq (by omega), Int.toNat_natCast, getD_len hlt, hx, m54_eq, Option.bind_some, secI_eq (by unfold secN at hu; omega), hk]
      have := wr_rec (G := G) (sf := L) (v := (i : Int)) h1 h2 h7 hl hl' k 1000000 u true b p hk.symm (by omega) (by omega) hw (by omega)
      refine this.trans ?_
      rw [wrapS (by omega), ← hL, show (i : Int) + 1 = ((i + 1 : Nat) : Int) by omega, ← hk]
      rw [ih (i + 1) f (u + secN b.length) _ ht (by omega) (by simp at hf; omega) (by omega) (by rw [List.length_append, wrs_len, pcs_len]; omega) (fun w hw' => by
        rcases List.mem_append.1 hw' with h | h
        · exact hw w h
        · obtain ⟨a1, a2, a3⟩ := wrs_mem h
          rw [pcs_len] at a2
          obtain ⟨m, kk, c, e1, e2⟩ := pcs_mem _ _ _ _ _ rfl a3
          exact ⟨by omega, by omega, by rw [e1]; exact enc_len e2⟩)]
      simp only [news]
      rw [wrs_app, pcs_len, List.append_assoc]
  have := key new 0 f u [] rfl (Nat.zero_le _) hf hu (by simp; omega) (by simp)
  simpa using this
theorem gen_loop {l : XJournal} {d : XDisk} {o : XJournal × Int} (h7 : ∀ s ∈ d.sectors, s.length = 128) (hlen : d.sectors.length ≤ 40) (hb : ∀ s ∈ d.sectors, getN (s.take 4) ≤ B ∧ getN (s.drop 124) ≤ B) (hB : B < 4294967290) :
    loop2 (m39_journal_Sync_B0 l d o) (((d.sectors.length : Int) - 0).toNat + 1) 1 0 = m39_journal_Sync_B0 l d o (fun _ _ => none) (genS 1 d.sectors : Int) (d.sectors.length : Int) := by
  refine (up_listB (B := m39_journal_Sync_B0 l d o) (σ := Int) (fun _ s => ∃ k : Nat, k ≤ B + 1 ∧ s = (k : Int)) (fun _ t s => m39_journal_Sync_B0 l d o (fun _ _ => none) (genS s.toNat t : Int) (d.sectors.length : Int)) d.sectors (by omega) ?_ ?_ (by omega) ⟨1, by omega, rfl⟩).trans rfl
  · rintro sf s ⟨k, hk, rfl⟩
    unfold m39_journal_Sync_B0
    rw [decide_eq_false (Int.lt_irrefl _)]; rfl
  · rintro sf i s x t h1 h2 h3 ⟨k, hk, rfl⟩ ih
    obtain ⟨_, hx⟩ := List.getElem?_eq_some_iff.1 h2
    have hm : x ∈ d.sectors := List.mem_of_getElem? h2
    have hx7 := h7 x hm
    obtain ⟨b1, b2⟩ := hb x hm
    have e : ∀ M : Option (XJournal × XDisk × Int), m39_journal_Sync_B0 l d o sf (k : Int) (i : Int) = sf (max (max (k : Int) (IntKind.wrap .u64 ((getN (x.take 4) : Int) + 1))) (IntKind.wrap .u64 ((getN (x.drop 124) : Int) + 1))) (IntKind.wrap .i64 ((i : Int) + 1)) := by
      intro _
      unfold m39_journal_Sync_B0
      have g1 : d.sectors.getD (i : Int).toNat default = x := getD_of h2
      rw [decide_eq_true (ipos h1), cond_true, ck_eq (by omega), g1, ck_eq (by rw [hx7]; decide)]
      rw [show (x.drop 0).take (4 - 0) = x.take 4 from rfl, (m60_eq (x.take 4) (by rw [List.length_take]; omega)).1, Option.bind_some, ck_eq (by rw [hx7]; decide)]
      rw [show (x.drop 124).take (x.length - 124) = x.drop 124 by rw [← List.length_drop]; exact List.take_length, (m60_eq (x.drop 124) (by rw [List.length_drop]; omega)).1, Option.bind_some]
    rw [e none, IntKind.wrap_u64, IntKind.wrap_u64, h3]
    have e2 : max (max (k : Int) (((getN (x.take 4) : Int) + 1) % 18446744073709551616)) (((getN (x.drop 124) : Int) + 1) % 18446744073709551616) = ((max (max k (getN (x.take 4) + 1)) (getN (x.drop 124) + 1) : Nat) : Int) := by omega
    rw [e2, ih _ ⟨_, by omega, rfl⟩]; rfl
/-- what Sync answers on a disk that bears the records that were synced -/
theorem sync_eq (h : Jd S kept B) (hB : B < 1000) (hl : -1 ≤ left) (hl' : left ≤ 65536) (hfit : usedN kept + usedN new ≤ S.length) :
    m39_journal_Sync ⟨kept ++ new, (S.length : Int), (kept.length : Int)⟩ (pen S [] left) =
      if new = [] then some (⟨kept ++ new, (S.length : Int), (kept.length : Int)⟩, pen S [] left, 0) else endS ⟨kept ++ new, (S.length : Int), (kept.length : Int)⟩ (pen S (wrs (usedN kept) (news (genS 1 S) (usedN kept) new)) left) := by
  have hfitJ : Fit S.length (kept ++ new) (kept.length : Int) := ⟨h.one, h.len, by rw [usedN_two]; exact hfit, by omega, by rw [List.length_append]; omega⟩
  have hul := usedN_len (kept ++ new)
  rw [usedN_two] at hul
  have hlen := h.len
  have hck : chk (pen S [] left) = true := pen_chk h.one h.len h.all hl hl' (by simp) (by simp)
  obtain ⟨gl, l1, l2⟩ := h.lay
  have hop := open_eq (d := pen S [] left) hck rfl rfl l1 l2
  have hbl : badJ ⟨kept ++ new, (S.length : Int), (kept.length : Int)⟩ = false := hfitJ.good
  unfold m39_journal_Sync
  rw [m32_eq _ (by simp only; omega), hbl, m18_eq _ (chk_few hck), hck, hop]
  simp only [Option.bind_some, cond_false, cond_true, ne_eq, not_true_eq_false, decide_false, jn_eq]
  rw [show (pen S [] left).sectors = S from rfl, decide_eq_false (show ¬ ¬ ((S.length : Int) = (S.length : Int)) by simp), cond_false]
  have hgl := gen_loop (l := ⟨kept ++ new, (S.length : Int), (kept.length : Int)⟩) (d := pen S [] left) (o := (⟨kept, ((pen S [] left).sectors.length : Int), (kept.length : Int)⟩, 0)) h.all h.len h.gens (by omega)
  refine hgl.trans ?_
  have hG : genS 1 S ≤ B + 1 := genS_le S 1 (by omega) h.gens
  unfold m39_journal_Sync_B0
  rw [show (pen S [] left).sectors = S from rfl, decide_eq_false (Int.lt_irrefl _), cond_false]
  have hc : (0 : Int) ≤ (kept.length : Int) ∧ (kept.length : Int) ≤ ((kept ++ new).length : Int) := by rw [List.length_append]; omega
  have htk : ((kept ++ new).drop 0).take ((kept.length : Int).toNat - 0) = kept := by rw [List.drop_zero, Nat.sub_zero, Int.toNat_natCast, List.take_left]
  have hge : (genS 1 S : Int) / 2 ^ min 32 (IntKind.bits .u64) = 0 := by
    rw [show (2 : Int) ^ min 32 (IntKind.bits .u64) = 4294967296 from rfl]; omega
  simp only [jn_eq, ck_eq hc, htk]
  rw [m61_refl kept (by omega), Option.bind_some, hge]
  simp only [Bool.not_true, cond_false, ne_eq, not_true_eq_false, decide_false]
  rw [m55_eq kept (by omega), usedF_fit0 (by omega), Option.bind_some]
  by_cases hn : new = []
  · subst hn
    rw [decide_eq_true (by simp), cond_true, if_pos rfl]
  · have : 0 < new.length := List.length_pos_iff.2 hn
    rw [decide_eq_false (by simp; omega), cond_false, if_neg hn]
    exact wr_all (G := genS 1 S) (l := ⟨kept ++ new, (S.length : Int), (kept.length : Int)⟩) (m := kept.length) h.one h.len h.all hl hl' (Int.toNat_natCast _) List.drop_left (usedN kept) hfit _ (by simp only [Int.toNat_natCast, List.drop_left]; simp)
end
end Go.Fx



/- Syncs that go through, and journals to which records are put. -/
set_option linter.unusedSimpArgs false
set_option linter.unusedVariables false
namespace Go.Fx
open Go Go.RowKit
section
variable {S kept new : List (List UInt8)} {B : Nat} {left : Int}
theorem Jd.mono {B' : Nat} (h : Jd S kept B) (hB : B ≤ B') : Jd S kept B' := ⟨h.one, h.len, h.all, fun s hs => by have := h.gens s hs; omega, h.lay⟩
theorem Jd.chk0 (h : Jd S kept B) (hl : -1 ≤ left) (hl' : left ≤ 65536) : chk (pen S [] left) = true := pen_chk h.one h.len h.all hl hl' (by simp) (by simp)
theorem Jd.opens (h : Jd S kept B) : m38_journal_Open (pen S [] (-1)) = some (⟨kept, (S.length : Int), (kept.length : Int)⟩, 0) := by
  obtain ⟨gl, l1, l2⟩ := h.lay
  exact open_eq (d := pen S [] (-1)) (h.chk0 (by decide) (by decide)) rfl rfl l1 l2
theorem news_ok {G u : Nat} (h : Jd S kept B) (hu : u + usedN new ≤ S.length) : ∀ w ∈ wrs u (news G u new), 0 ≤ w.at_ ∧ w.at_ < (S.length : Int) ∧ w.data.length = 128 := by
  intro w hw
  obtain ⟨a1, a2, a3⟩ := wrs_mem hw
  rw [news_len] at a2
  obtain ⟨m, kk, c, e1, e2⟩ := news_mem a3
  exact ⟨by omega, by omega, by rw [e1]; exact enc_len e2⟩
/-- a sync that goes through -/
theorem sync_ok (h : Jd S kept B) (hB : B < 1000) (hfit : usedN kept + usedN new ≤ S.length) :
    ∃ S', m39_journal_Sync ⟨kept ++ new, (S.length : Int), (kept.length : Int)⟩ (pen S [] (-1)) = some (⟨kept ++ new, (S.length : Int), ((kept ++ new).length : Int)⟩, pen S' [] (-1), 0) ∧ Jd S' (kept ++ new) (B + 1) ∧ S'.length = S.length ∧
      (new = [] → S' = S) ∧ (new ≠ [] → S' = perf S (wrs (usedN kept) (news (genS 1 S) (usedN kept) new))) := by
  have hs := sync_eq h hB (left := -1) (by decide) (by decide) hfit
  by_cases hn : new = []
  · subst hn
    rw [if_pos rfl] at hs
    refine ⟨S, by rw [hs]; simp, by simpa using h.mono (Nat.le_succ B), rfl, fun _ => rfl, fun h => absurd rfl h⟩
  · rw [if_neg hn] at hs
    have hlen := h.len
    have hck : chk (pen S (wrs (usedN kept) (news (genS 1 S) (usedN kept) new)) (-1)) = true := pen_chk h.one h.len h.all (by decide) (by decide) (by rw [wrs_len, news_len]; omega) (news_ok h hfit)
    refine ⟨_, ?_, h.sync (by omega) hfit hn, perf_len _ _, fun h => absurd h hn, fun _ => rfl⟩
    rw [hs]; unfold endS
    rw [sn_ok hck rfl]; rfl
end
/-- records put behind each other, where they fit -/
def addAll (m : Nat) (recs : List (List UInt8)) (rs : List (List UInt8)) : List (List UInt8) := rs.foldl (addN m) recs
theorem addAll_fit {m : Nat} {s : Int} : ∀ (rs : List (List UInt8)) {recs : List (List UInt8)}, Fit m recs s → Fit m (addAll m recs rs) s ∧ recs <+: addAll m recs rs
  | [], _, h => ⟨h, List.prefix_refl _⟩
  | b :: t, recs, h => by
    obtain ⟨h1, _, h3⟩ := addN_fit (b := b) h
    obtain ⟨h4, h5⟩ := addAll_fit t h1
    exact ⟨h4, h3.trans h5⟩
theorem app_addN {m : Nat} {recs : List (List UInt8)} {s : Int} {b : List UInt8} (h : Fit m recs s) (hb : b.length ≤ 140737488351232) :
    ∃ r, m30_journal_Append ⟨recs, (m : Int), s⟩ b = some r ∧ ((r.2 = 0 ∧ r.1 = ⟨addN m recs b, (m : Int), s⟩) ∨ (r.2 ≠ 0 ∧ addN m recs b = recs)) := by
  by_cases hf : usedN recs + secN b.length ≤ m
  · exact ⟨_, app_yes h hb hf, .inl ⟨rfl, by unfold addN; rw [if_pos hf]⟩⟩
  · exact ⟨_, app_no h hb hf, .inr ⟨by decide, by unfold addN; rw [if_neg hf]⟩⟩
end Go.Fx



/- JournalSteps, where what comes in is small. -/
set_option linter.unusedSimpArgs false
set_option linter.unusedVariables false
namespace Go.Fx
open Go Go.RowKit
theorem m40_eq {m : Nat} {recs rs : List (List UInt8)} {s : Int} (h : Fit m recs s) (hl : rs.length < 9223372036854775807) (hb : ∀ b ∈ rs, b.length ≤ 140737488351232) : m40_overflightlaw45_JournalSteps_1 ⟨recs, (m : Int), s⟩ rs = some ⟨addAll m recs rs, (m : Int), s⟩ := by
  unfold m40_overflightlaw45_JournalSteps_1
  refine up_list (L := fun n i (st : List (List UInt8)) => loop4 (m40_overflightlaw45_JournalSteps_1_B0 rs) n i st (m : Int) s) (fun _ st => Fit m st s) (fun _ t st => some ⟨addAll m st t, (m : Int), s⟩) rs hl ?_ ?_ _ recs (by omega) h
  · intro n st _
    simp only [loop4_succ]
    unfold m40_overflightlaw45_JournalSteps_1_B0
    rw [decide_eq_false (Int.lt_irrefl _)]; rfl
  · intro n i st x t h1 h2 h3 hst ih
    simp only [loop4_succ]
    generalize hL : loop4 (m40_overflightlaw45_JournalSteps_1_B0 rs) n = L at ih
    unfold m40_overflightlaw45_JournalSteps_1_B0
    have g1 : rs.getD (i : Int).toNat default = x := getD_of h2
    obtain ⟨r, e1, e2⟩ := app_addN (b := x) hst (hb x (List.mem_of_getElem? h2))
    rw [decide_eq_true (ipos h1), cond_true, ck_eq (by omega), g1, e1, Option.bind_some]
    have hfin : addAll m st (x :: t) = addAll m (addN m st x) t := rfl
    rcases e2 with ⟨e2, e3⟩ | ⟨e2, e3⟩
    · rw [decide_eq_true e2, cond_true, h3, e3]
      simp only
      rw [ih _ (addN_fit hst).1, hfin]
    · rw [decide_eq_false e2, cond_false, h3, ih _ hst, hfin, e3]
theorem JournalSteps_law (a b : List (List UInt8)) (ha' : 1 + (a.map fun b => 1 + (b.map fun _ => 1).sum).sum ≤ 1048576) (hb' : 1 + (b.map fun b => 1 + (b.map fun _ => 1).sum).sum ≤ 1048576) : m11_overflightlaw45_JournalSteps a b = some true := by
  simp only [ones] at ha' hb'
  have la := sum_len a
  have lb := sum_len b
  have ma : ∀ x ∈ a, x.length ≤ 140737488351232 := fun x hx => by have := sum_mem hx; omega
  have mb : ∀ x ∈ b, x.length ≤ 140737488351232 := fun x hx => by have := sum_mem hx; omega
  have hnew : m15_disk_New 40 = some (⟨List.replicate 40 (List.replicate 128 0), [], -1, false⟩, 0) := m15_ok (k := 40) (by decide) (by decide)
  obtain ⟨S, hS⟩ : ∃ S : List (List UInt8), S = List.replicate 40 (List.replicate 128 0) := ⟨_, rfl⟩
  have hSl : S.length = 40 := by rw [hS, List.length_replicate]
  have J0 : Jd S [] 0 := by rw [hS]; exact Jd.start (by decide) (by decide)
  unfold m11_overflightlaw45_JournalSteps
  rw [sane45, Option.bind_some, hnew, ← hS]
  simp only [Option.bind_some, Bool.not_true, cond_false, jn_eq, ne_eq, not_true_eq_false, decide_false]
  rw [ck_eq (by simp; omega), ck_eq (by simp; omega), m29_eq _ _ (by simp; omega), Option.bind_some]
  cases fewJ (⟨S, [], -1, false⟩ : XDisk) ([] ++ a ++ b)
  · rfl
  simp only [Bool.not_true, cond_false]
  have e40 : ((40 : Nat) : Int) = (S.length : Int) := by rw [hSl]
  rw [show (⟨S, [], -1, false⟩ : XDisk) = pen S [] (-1) from rfl, J0.opens, Option.bind_some]
  simp only [ne_eq, not_true_eq_false, decide_false, cond_false]
  have F0 : Fit S.length ([] : List (List UInt8)) 0 := ⟨by omega, by omega, by simp [usedN], by decide, by simp⟩
  obtain ⟨Fa, _⟩ := addAll_fit a F0
  obtain ⟨Fab, hpre⟩ := addAll_fit b Fa
  obtain ⟨new2, hn2⟩ := hpre
  have x1 : m40_overflightlaw45_JournalSteps_1 (⟨[], (S.length : Int), (([] : List (List UInt8)).length : Int)⟩ : XJournal) a = some ⟨addAll S.length [] a, (S.length : Int), 0⟩ := m40_eq F0 (by omega) ma
  have x2 : m40_overflightlaw45_JournalSteps_1 (⟨addAll S.length [] a, (S.length : Int), 0⟩ : XJournal) b = some ⟨addAll S.length (addAll S.length [] a) b, (S.length : Int), 0⟩ := m40_eq Fa (by omega) mb
  obtain ⟨ra, hra⟩ : ∃ ra, ra = addAll S.length [] a := ⟨_, rfl⟩
  obtain ⟨rab, hrab⟩ : ∃ rab, rab = addAll S.length ra b := ⟨_, rfl⟩
  rw [← hra] at x1 x2 Fa Fab hn2
  rw [← hrab] at x2 Fab hn2
  rw [x1]; simp only [Option.bind_some]
  rw [x2]; simp only [Option.bind_some]
  have uab := Fab.use
  have ua := Fa.use
  obtain ⟨S1, s1, j1, l1, _⟩ := sync_ok (new := rab) J0 (by decide) (by simp [usedN]; exact uab)
  obtain ⟨S2, s2, j2, l2, _⟩ := sync_ok (new := ra) J0 (by decide) (by simp [usedN]; exact ua)
  simp only [List.nil_append, List.length_nil, Int.natCast_zero] at s1 s2 j1 j2
  have Fa2 : Fit S.length ra (ra.length : Int) := ⟨Fa.one, Fa.len, Fa.use, by omega, by omega⟩
  have x3 : m40_overflightlaw45_JournalSteps_1 (⟨ra, (S.length : Int), (ra.length : Int)⟩ : XJournal) b = some ⟨rab, (S.length : Int), (ra.length : Int)⟩ := by rw [hrab]; exact m40_eq Fa2 (by omega) mb
  obtain ⟨S3, s3, j3, l3, _⟩ := sync_ok (new := new2) j2 (by decide) (by rw [← usedN_two, hn2, l2]; exact uab)
  rw [hn2] at s3 j3
  obtain ⟨S4, s4, j4, l4, n4, _⟩ := sync_ok (new := []) j3 (by decide) (by have := j3.fits; simp [usedN] at this ⊢; omega)
  have e4 := n4 rfl
  subst e4
  simp only [List.append_nil] at s4
  rw [l3, l2] at s4
  rw [l2] at s3
  have o1 := j1.opens
  have o3 := j3.opens
  rw [l1] at o1
  rw [l3, l2] at o3
  have hlab := usedN_len rab
  have q1 := m36_refl ⟨rab, (S.length : Int), (rab.length : Int)⟩ (by simp only; omega)
  have q2 : m37_overflightref45_SameRecords rab rab = some true := by rw [m37_eq _ _ (by omega), decide_eq_true rfl]
  have q3 := m17_refl _ (chk_few (j3.chk0 (left := -1) (by decide) (by decide)))
  simp only [s1, s2, x3, s3, s4, o1, o3, q1, q2, q3, Option.bind_some, decide_true, cond_true]
end Go.Fx



namespace Go.Proofs.Ytegomkljijgjjaa.lawJournalSteps
open Go Go.Proofs Go.ChangeShapes Go.WideShapes Go.ChangeAt Go.RowKit Go.Fx
open Go.ChangeMaps (open_string shut_string)
set_option linter.unusedVariables false
set_option maxRecDepth 100000
theorem one_le {H : Type} (d : DataW H) : 1 ≤ Rows.uptoBulk d := by
  cases d with
  | lit l => cases l <;> simp [Rows.uptoBulk]
  | nil => simp [Rows.uptoBulk]
  | ptr d => simp [Rows.uptoBulk]
  | slice elems spare => simp [Rows.uptoBulk]
  | agg parts => simp [Rows.uptoBulk]
  | iface t d => simp [Rows.uptoBulk]
  | map entries => simp [Rows.uptoBulk]
  | held h => simp [Rows.uptoBulk]
theorem all_sum {H : Type} (l : List (DataW H)) : Rows.uptoBulkAll l = (l.map Rows.uptoBulk).sum := by
  induction l with
  | nil => simp [Rows.uptoBulkAll]
  | cons x r ih => simp only [Rows.uptoBulkAll, List.map_cons, List.sum_cons, ih]
theorem slice_ge {H : Type} (e s : List (DataW H)) : 1 + (e.map Rows.uptoBulk).sum ≤ Rows.uptoBulk (.slice e s) := by
  rw [← all_sum]; simp only [Rows.uptoBulk]; omega
theorem agg_ge {H : Type} (l : List (DataW H)) (d : DataW H) (h : d ∈ l) : Rows.uptoBulk d ≤ Rows.uptoBulk (.agg l) := by
  have : Rows.uptoBulk d ≤ Rows.uptoBulkAll l := by
    induction l with
    | nil => cases h
    | cons x r ih =>
      simp only [Rows.uptoBulkAll]
      rcases List.mem_cons.1 h with rfl | h
      · omega
      · have := ih h; omega
  simp only [Rows.uptoBulk]; omega
theorem rb5 {H : Type} {enc : TypeId × Value → H} {w : World} {base : Nat} {spare : Nat → Bool} {held : Bool} : RdB Rows.uptoBulk enc Try.prog w base spare held 5 rU8 (fun _ => 1) := RdB.of one_le rd5
theorem rb41 {H : Type} {enc : TypeId × Value → H} {w : World} {base : Nat} {spare : Nat → Bool} {held : Bool} : RdB Rows.uptoBulk enc Try.prog w base spare held 41 (rSl rU8) (fun xs => 1 + (xs.map (fun _ => 1)).sum) := RdB_slice one_le slice_ge Try.underlying41 (by kernel_rfl) (by decide) rb5
theorem rb22 {H : Type} {enc : TypeId × Value → H} {w : World} {base : Nat} {spare : Nat → Bool} {held : Bool} : RdB Rows.uptoBulk enc Try.prog w base spare held 22 (rSl (rSl rU8)) (fun xs => 1 + (xs.map (fun xs => 1 + (xs.map (fun _ => 1)).sum)).sum) := RdB_slice one_le slice_ge Try.underlying22 (by kernel_rfl) (by decide) rb41
theorem own : ownKnob Try.prog.godebug = none := by kernel_rfl
theorem laidOut : laidOutB Try.prog = true := by kernel_rfl
set_option maxRecDepth 100000 in
set_option maxHeartbeats 1000000 in
theorem lifted (os : Os) (started : os.Started) (H : Type) (enc : TypeId × Value → H) (F : Stop.Interp) :
    ReturnsInHanded {} Try.checked os 11 .any ((Rows.OpenSpec.upto Rows.journalStepsSpec).pre6 enc Try.prog Try.f11 Rows.journalStepsUptoRow.domain false) (((Rows.OpenSpec.upto Rows.journalStepsSpec).at F).post enc Try.prog Try.f11 false true false false) := by
  refine returnsInHanded_of_cond (C := Try.checked) (s := Rows.OpenSpec.upto Rows.journalStepsSpec) (k := Rows.uptoSmall) rfl own started (by kernel_rfl) Try.func11
    (OpenSpec.witness (enc := enc) (C := Try.checked) (s := Rows.OpenSpec.upto Rows.journalStepsSpec) (k := Rows.uptoSmall) rfl false ⟨#[], #[(.slice none 0 0), (.slice none 0 0)], []⟩ 8 (by kernel_rfl) (by kernel_rfl) (by kernel_rfl)
      (x := ([.nil, .nil], [], [])) (by kernel_rfl) rfl (by kernel_rfl)) ?_
  intro W base args ds gs before hval0 hW hcnd hk _
  have hval : ∀ (j : Nat) t v, Try.f11.params[j]? = some t → args[j]? = some v → Value.okWide Try.prog W .any base t v := hval0
  have hW' := hW
  obtain ⟨p, q, hA0, hV, rfl, hfz, hnd⟩ := hW
  have hA : DataW.TrodAll enc Try.prog W 0 (fun _ => true) true Try.f11.params.toList args.toList ds p := hA0
  rw [Try.params11] at hA hval
  obtain ⟨v0, vs0, d0, ds0, p0, q0, hargs, rfl, rfl, h0, r0⟩ := trodAll_cons hA
  obtain ⟨v1, vs1, d1, ds1, p1, q1, rfl, rfl, rfl, h1, r1⟩ := trodAll_cons r0
  obtain ⟨rfl, rfl, rfl⟩ := trodAll_nil r1
  obtain rfl : args = #[v0, v1] := by cases args; simp_all
  obtain ⟨rfl, rfl⟩ := trodVars_none hV
  have k0 := h0
  have lt0 : ∀ x ∈ p0, x.block < W.heap.size := by obtain ⟨m, hm⟩ := k0; exact DataW.trod_lt m _ _ _ hm
  obtain ⟨fu0, hf0⟩ := h0
  obtain ⟨a, rr0, sm0⟩ := rb22.2 _ _ _ hf0
  obtain ⟨b0, l0, c0, rfl⟩ := okWide_slice Try.underlying22 (hval 0 22 v0 rfl rfl)
  replace rr0 : (rSl (rSl rU8)).rd W [] [.slice b0 l0 c0] a := rr0
  obtain ⟨a_a, c_a, e0, f_a⟩ := un_sl rr0
  simp only [Value.slice.injEq] at e0
  obtain ⟨rfl, rfl, rfl⟩ := e0
  have k1 := h1
  have lt1 : ∀ x ∈ p1, x.block < W.heap.size := by obtain ⟨m, hm⟩ := k1; exact DataW.trod_lt m _ _ _ hm
  obtain ⟨fu1, hf1⟩ := h1
  obtain ⟨b, rr1, sm1⟩ := rb22.2 _ _ _ hf1
  obtain ⟨b1, l1, c1, rfl⟩ := okWide_slice Try.underlying22 (hval 1 22 v1 rfl rfl)
  replace rr1 : (rSl (rSl rU8)).rd W [] [.slice b1 l1 c1] b := rr1
  obtain ⟨a_b, c_b, e1, f_b⟩ := un_sl rr1
  simp only [Value.slice.injEq] at e1
  obtain ⟨rfl, rfl, rfl⟩ := e1
  have hkb : Rows.uptoBulkAll ([d0, d1] ++ []) ≤ 1048576 := of_decide_eq_true hk
  simp only [List.append_nil, Rows.uptoBulkAll] at hkb
  replace sm0 := Nat.le_trans sm0 (show Rows.uptoBulk d0 ≤ 1048576 by omega)
  replace sm1 := Nat.le_trans sm1 (show Rows.uptoBulk d1 ≤ 1048576 by omega)
  have hm : m11_overflightlaw45_JournalSteps a b = some true := JournalSteps_law _ _ sm0 sm1
  have hc := Fn.calls (c11_overflightlaw45_JournalSteps (a := a) (b := b) (w := W) (O := []) (by simp) f_a f_b hm)
  clear hA0 hval0
  refine Calls.mono hc ?_
  rintro e W' ⟨v, rfl, bel, hv⟩
  replace bel := bel.below; obtain rfl : v = .bool true := hv
  exact ⟨_, rfl, _, _, _, [], _, [], hW', trodAll_mk1 (shut_bool Try.underlying4 _), (trodAll_cons_mk (Below.trod laidOut (by kernel_rfl) (of_decide_eq_true (by kernel_rfl)) k0 bel lt0) (trodAll_cons_mk (Below.trod laidOut (by kernel_rfl) (of_decide_eq_true (by kernel_rfl)) k1 bel lt1) trodAll_mk0)), rfl, bel.frame _, fun h => by cases h⟩
theorem proved : Rows.JournalStepsUptoSaid :=
  OpenClaim.holds_of_cond 11 Try.f11 rfl rfl rfl rfl rfl rfl rfl ⟨rfl, rfl, rfl, rfl, rfl⟩ rfl rfl rfl rfl rfl (by kernel_rfl) Try.func11 (by kernel_rfl)
    (of_decide_eq_true (by kernel_rfl)) (by unfold Func.isWrapper; first | (rw [if_pos (by decide +kernel)]; kernel_rfl) | (rw [if_neg (by decide +kernel)]; exact ⟨rfl, rfl⟩))
    (fun os started H enc _ F => lifted os started H enc F)
end Go.Proofs.Ytegomkljijgjjaa.lawJournalSteps


