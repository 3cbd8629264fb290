/- Part 3 of the proof: the law JournalDamage holds for every list of records and every change of one byte. -/
import Derived.Test.YtegomkljijgjjaaDmg2
set_option linter.unusedVariables false
set_option linter.unusedSimpArgs false
set_option maxRecDepth 100000
set_option maxHeartbeats 0
namespace Go.Fx
open Go Go.RowKit Go.Proofs
def m32_journal_Check (l : XJournal) : Option Int :=
 jn (fun (v_1 : Bool) =>
  bif v_1 then
   some 1
  else
   some 0)
 (fun k8 =>
  bif (decide (l.many < 1)) then
   k8 true
  else
   bif (decide (4096 < l.many)) then
    k8 true
   else
    bif (decide (l.synced < 0)) then
     k8 true
    else
     bif (decide ((l.records.length : Int) < l.synced)) then
      k8 true
     else
      (m55_journal_used l.records).bind fun used_1 =>
      k8 (decide (l.many < used_1)))

theorem c32_journal_Check {w : World} {O : List Nat} {l : XJournal} {a_l_records : Option Addr} {c_l_records : Nat} (hO : ∀ k ∈ O, k < w.heap.size) (f_l_records : SlR (rSl rU8) w O a_l_records c_l_records l.records) (r_l_many : InK .i64 l.many) (r_l_synced : InK .i64 l.synced) {x : Int} (hm : m32_journal_Check l = some x) :
  Ok Try.prog 32 [(Value.agg [(Value.slice a_l_records l.records.length c_l_records), (Value.int .i64 l.many), (Value.int .i64 l.synced)].toArray)] w O (vI .i64) x := by
 unfold m32_journal_Check at hm
 refine Fn_of_Wp (n := 32) (xs := [.tmp 2]) Try.func32 rfl Try.ntmps32 Try.results32 rfl ?_
 have hs := St.start hO
 refine Wp_seq ?_
 refine Wp_region ?_
 refine Rg_op rfl (op_box (cs := [(Value.slice a_l_records l.records.length c_l_records), (Value.int .i64 l.many), (Value.int .i64 l.synced)]) hs rfl rfl ?_)
 intro b1 w2 _ p3 hs4
 replace f_l_records := f_l_records.step p3; clear p3
 refine Rg_op rfl (op_assign (v := (Value.int .i64 0)) rfl ?_)
 refine Rg_nil ?_
 refine Wp_seq ?_
 refine Wp_reset [] [(1, (Value.pointer (some ⟨b1, 0, none⟩)))] rfl ⟨rfl, trivial⟩ fun ξ6 => ?_
 replace hm := jn_elim hm; obtain ⟨k8, hk9, hm⟩ := hm
 refine Wp_seqJ [3, 4, 5, 6, 7, 8, 9, 10, 11, 12, 13, 14, 15, 16, 17, 18, 19, 20, 21, 22, 23, 24, 25, 26, 27, 28, 29, 30, 31] (fun fr w' => ∃ (v_1 : Bool) (Ebs : Ents), Ebs = [(some b1, Obj.cells [(Value.slice a_l_records l.records.length c_l_records), (Value.int .i64 l.many), (Value.int .i64 l.synced)].toArray 52)] ∧ fr [] [(31, (Value.bool v_1))] ∧ Step (ks [(some b1, Obj.cells [(Value.slice a_l_records l.records.length c_l_records), (Value.int .i64 l.many), (Value.int .i64 l.synced)].toArray 52)] O) w2 (ks Ebs O) w' ∧ St ⟨w, [], []⟩ O w' Ebs ∧ k8 v_1 = some x) ?_ ?_
 ·
  rintro ρ15 w11 ⟨v_1, Ebs, hEbs, hfr14, hst13, hs12, hm⟩
  replace hm := jnE1 hk9 hm
  subst hEbs; rw [hfr14.eq]; clear hfr14
  replace f_l_records := f_l_records.step hst13; clear hst13 hs4
  refine Wp_cond rfl (fun hc16 => ?_) (fun hc16 => ?_)
  ·
   replace hm := bif_t hm hc16
   refine Wp_seq ?_
   obtain ⟨hs17, p18⟩ := hs12.sub (bs' := []) (.cons _ List.Sublist.slnil)
   clear f_l_records
   clear p18 hs12
   refine Wp_region ?_
   refine Rg_op rfl (op_assign (v := (Value.int .i64 1)) rfl ?_)
   refine Rg_nil ?_
   refine Wp_ret ?_
   have hz := step_all hs17
   refine ⟨_, (show Closes [] _ _ from rfl), [(Value.int .i64 1)], ⟨rfl, trivial⟩, hs17.ext, ?_⟩
   exact Vr.eq (a := (vI .i64)) (x := 1) ⟨rfl, (show InK .i64 1 from by decide)⟩ (Option.some.inj hm)
  ·
   replace hm := bif_f hm hc16
   refine Wp_skip ?_
   refine Wp_seq ?_
   obtain ⟨hs19, p20⟩ := hs12.sub (bs' := []) (.cons _ List.Sublist.slnil)
   clear f_l_records
   clear p20 hs12
   refine Wp_region ?_
   refine Rg_op rfl (op_assign (v := (Value.int .i64 0)) rfl ?_)
   refine Rg_nil ?_
   refine Wp_ret ?_
   have hz := step_all hs19
   refine ⟨_, (show Closes [] _ _ from rfl), [(Value.int .i64 0)], ⟨rfl, trivial⟩, hs19.ext, ?_⟩
   exact Vr.eq (a := (vI .i64)) (x := 0) ⟨rfl, (show InK .i64 0 from by decide)⟩ (Option.some.inj hm)
 ·
  intro K10 hK10
  have ch21 := Step.refl (ks [(some b1, Obj.cells [(Value.slice a_l_records l.records.length c_l_records), (Value.int .i64 l.many), (Value.int .i64 l.synced)].toArray 52)] O) w2
  refine Wp_drawR (g0 := []) (m := 27) (fl := []) (TS_inv hs4) rfl (.inl rfl) rfl (by decide +kernel) ?_  -- 1
  refine Dw_eq (Value.pointer (some ⟨b1, 1, none⟩)) (fun ρ22 w23 g hle hi ht => ?_) ?_
  ·
   obtain ⟨-, hst, -⟩ := hle
   refine StepOp_plain (op_fieldAddr ty52 rfl ty3 (by decide) (ht 1 rfl) (rfl : _ = (⟨_, 1, none⟩ : Addr)) ?_)
   exact Goes.same hi rfl
  refine Dw_eq (Value.int .i64 l.many) (fun ρ25 w26 g hle hi ht => ?_) ?_
  ·
   obtain ⟨-, hst, -⟩ := hle
   have hsn := (Step.nx hi).1
   refine StepOp_plain (op_load (cs := [(Value.slice a_l_records l.records.length c_l_records), (Value.int .i64 l.many), (Value.int .i64 l.synced)]) (i := 0) ty3 hsn (ht 3 rfl) rfl rfl ?_)
   exact Goes.same hi rfl
  refine Dw_eq (Value.bool (decide (l.many < 1))) (fun ρ28 w29 g hle hi ht => ?_) ?_
  ·
   obtain ⟨-, hst, -⟩ := hle
   refine StepOp_plain (op_lss (ht 4 rfl) rfl ?_)
   exact Goes.same hi rfl
  refine Dw_opB (decide (l.many < 1)) (fun ρ31 w32 g hle hi ht => ?_) (fun hg34 => ?_) (fun hg34 => ?_)
  ·
   obtain ⟨-, hst, -⟩ := hle
   refine StepOp_plain (op_move (v := (Value.bool (decide (l.many < 1)))) (ht 5 rfl) ?_)
   exact Goes.same hi rfl
  ·
   replace hm := bif_t hm hg34
   refine Dw_skip (fun _ _ _ ht => wanted_x rfl (ht 6 rfl) rfl) ?_
   refine Dw_skip (fun _ _ _ ht => wanted_x rfl (ht 6 rfl) rfl) ?_
   refine Dw_skip (fun _ _ _ ht => wanted_x rfl (ht 6 rfl) rfl) ?_
   refine Dw_eq (Value.bool true) (fun ρ35 w36 g hle hi ht => ?_) ?_
   ·
    obtain ⟨-, hst, -⟩ := hle
    refine StepOp_plain (op_pick_t (v := (Value.bool true)) (ht 6 rfl) rfl ?_)
    exact Goes.same hi rfl
   refine Dw_eq (Value.bool true) (fun ρ38 w39 g hle hi ht => ?_) ?_
   ·
    obtain ⟨-, hst, -⟩ := hle
    refine StepOp_plain (op_move (v := (Value.bool true)) (ht 10 rfl) ?_)
    exact Goes.same hi rfl
   refine Dw_skip (fun _ _ _ ht => wanted_x rfl (ht 11 rfl) rfl) ?_
   refine Dw_skip (fun _ _ _ ht => wanted_x rfl (ht 11 rfl) rfl) ?_
   refine Dw_skip (fun _ _ _ ht => wanted_x rfl (ht 11 rfl) rfl) ?_
   refine Dw_eq (Value.bool true) (fun ρ41 w42 g hle hi ht => ?_) ?_
   ·
    obtain ⟨-, hst, -⟩ := hle
    refine StepOp_plain (op_pick_t (v := (Value.bool true)) (ht 11 rfl) rfl ?_)
    exact Goes.same hi rfl
   refine Dw_eq (Value.bool true) (fun ρ44 w45 g hle hi ht => ?_) ?_
   ·
    obtain ⟨-, hst, -⟩ := hle
    refine StepOp_plain (op_move (v := (Value.bool true)) (ht 15 rfl) ?_)
    exact Goes.same hi rfl
   refine Dw_skip (fun _ _ _ ht => wanted_x rfl (ht 16 rfl) rfl) ?_
   refine Dw_skip (fun _ _ _ ht => wanted_x rfl (ht 16 rfl) rfl) ?_
   refine Dw_skip (fun _ _ _ ht => wanted_x rfl (ht 16 rfl) rfl) ?_
   refine Dw_skip (fun _ _ _ ht => wanted_x rfl (ht 16 rfl) rfl) ?_
   refine Dw_skip (fun _ _ _ ht => wanted_x rfl (ht 16 rfl) rfl) ?_
   refine Dw_skip (fun _ _ _ ht => wanted_x rfl (ht 16 rfl) rfl) ?_
   refine Dw_eq (Value.bool true) (fun ρ47 w48 g hle hi ht => ?_) ?_
   ·
    obtain ⟨-, hst, -⟩ := hle
    refine StepOp_plain (op_pick_t (v := (Value.bool true)) (ht 16 rfl) rfl ?_)
    exact Goes.same hi rfl
   refine Dw_eq (Value.bool true) (fun ρ50 w51 g hle hi ht => ?_) ?_
   ·
    obtain ⟨-, hst, -⟩ := hle
    refine StepOp_plain (op_move (v := (Value.bool true)) (ht 23 rfl) ?_)
    exact Goes.same hi rfl
   refine Dw_skip (fun _ _ _ ht => wanted_x rfl (ht 24 rfl) rfl) ?_
   refine Dw_skip (fun _ _ _ ht => wanted_x rfl (ht 24 rfl) rfl) ?_
   refine Dw_skip (fun _ _ _ ht => wanted_x rfl (ht 24 rfl) rfl) ?_
   refine Dw_skip (fun _ _ _ ht => wanted_x rfl (ht 24 rfl) rfl) ?_
   refine Dw_skip (fun _ _ _ ht => wanted_x rfl (ht 24 rfl) rfl) ?_
   refine Dw_nil fun w57 g58 hl59 hi60 => ?_
   obtain ⟨-, hst61, -⟩ := hl59
   obtain ⟨hs63, p62⟩ := Step.nx hi60
   rintro _ rfl
   rintro _ rfl
   rintro _ rfl
   rintro _ rfl
   rintro _ rfl
   rintro _ rfl
   rintro _ rfl
   rintro _ rfl
   rintro _ rfl
   rintro _ rfl
   rintro _ rfl
   rintro _ rfl
   rintro _ rfl
   rintro _ rfl
   rintro _ rfl
   rintro _ rfl
   rintro _ rfl
   rintro _ rfl
   rintro _ rfl
   rintro _ rfl
   rintro _ rfl
   rintro _ rfl
   rintro _ rfl
   rintro _ rfl
   rintro _ rfl
   rintro _ rfl
   rintro _ rfl
   have p64 : Step (ks [(some b1, Obj.cells [(Value.slice a_l_records l.records.length c_l_records), (Value.int .i64 l.many), (Value.int .i64 l.synced)].toArray 52)] O) w2 (ks [(some b1, Obj.cells [(Value.slice a_l_records l.records.length c_l_records), (Value.int .i64 l.many), (Value.int .i64 l.synced)].toArray 52)] O) w57 := hst61.trans p62
   replace f_l_records := f_l_records.step p64; replace ch21 := ch21.trans p64; clear p64 hs4
   refine Rg_opx rfl (asB_ne rfl rfl) rfl ?_
   refine Rg_op rfl (op_pick_t (v := (Value.bool true)) rfl rfl ?_)
   refine Rg_nil ?_
   exact hK10 _ _ ⟨true, _, rfl, ⟨(by repeat (first | with_reducible exact Out.refl _ _ | refine Out.upd ?_ rfl | refine Out.updL ?_ rfl | refine Out.mix' ?_ rfl | exact Out.refl _ _)), rfl, rfl, trivial⟩, ch21, hs63, hm⟩
  ·
   replace hm := bif_f hm hg34
   refine Dw_eq (Value.pointer (some ⟨b1, 1, none⟩)) (fun ρ65 w66 g hle hi ht => ?_) ?_
   ·
    obtain ⟨-, hst, -⟩ := hle
    refine StepOp_g rfl (ht 6 rfl) (op_fieldAddr ty52 rfl ty3 (by decide) (ht 1 rfl) (rfl : _ = (⟨_, 1, none⟩ : Addr)) ?_)
    exact Goes.same hi rfl
   refine Dw_eq (Value.int .i64 l.many) (fun ρ68 w69 g hle hi ht => ?_) ?_
   ·
    obtain ⟨-, hst, -⟩ := hle
    have hsn := (Step.nx hi).1
    refine StepOp_g rfl (ht 6 rfl) (op_load (cs := [(Value.slice a_l_records l.records.length c_l_records), (Value.int .i64 l.many), (Value.int .i64 l.synced)]) (i := 0) ty3 hsn (ht 7 rfl) rfl rfl ?_)
    exact Goes.same hi rfl
   refine Dw_eq (Value.bool (decide (4096 < l.many))) (fun ρ71 w72 g hle hi ht => ?_) ?_
   ·
    obtain ⟨-, hst, -⟩ := hle
    refine StepOp_g rfl (ht 6 rfl) (op_gtr (ht 8 rfl) rfl ?_)
    exact Goes.same hi rfl
   refine Dw_eq (Value.bool (decide (4096 < l.many))) (fun ρ74 w75 g hle hi ht => ?_) ?_
   ·
    obtain ⟨-, hst, -⟩ := hle
    refine StepOp_plain (op_pick_f (v := (Value.bool (decide (4096 < l.many)))) (ht 6 rfl) (ht 9 rfl) ?_)
    exact Goes.same hi rfl
   refine Dw_opB (decide (4096 < l.many)) (fun ρ77 w78 g hle hi ht => ?_) (fun hg80 => ?_) (fun hg80 => ?_)
   ·
    obtain ⟨-, hst, -⟩ := hle
    refine StepOp_plain (op_move (v := (Value.bool (decide (4096 < l.many)))) (ht 10 rfl) ?_)
    exact Goes.same hi rfl
   ·
    replace hm := bif_t hm hg80
    refine Dw_skip (fun _ _ _ ht => wanted_x rfl (ht 11 rfl) rfl) ?_
    refine Dw_skip (fun _ _ _ ht => wanted_x rfl (ht 11 rfl) rfl) ?_
    refine Dw_skip (fun _ _ _ ht => wanted_x rfl (ht 11 rfl) rfl) ?_
    refine Dw_eq (Value.bool true) (fun ρ81 w82 g hle hi ht => ?_) ?_
    ·
     obtain ⟨-, hst, -⟩ := hle
     refine StepOp_plain (op_pick_t (v := (Value.bool true)) (ht 11 rfl) rfl ?_)
     exact Goes.same hi rfl
    refine Dw_eq (Value.bool true) (fun ρ84 w85 g hle hi ht => ?_) ?_
    ·
     obtain ⟨-, hst, -⟩ := hle
     refine StepOp_plain (op_move (v := (Value.bool true)) (ht 15 rfl) ?_)
     exact Goes.same hi rfl
    refine Dw_skip (fun _ _ _ ht => wanted_x rfl (ht 16 rfl) rfl) ?_
    refine Dw_skip (fun _ _ _ ht => wanted_x rfl (ht 16 rfl) rfl) ?_
    refine Dw_skip (fun _ _ _ ht => wanted_x rfl (ht 16 rfl) rfl) ?_
    refine Dw_skip (fun _ _ _ ht => wanted_x rfl (ht 16 rfl) rfl) ?_
    refine Dw_skip (fun _ _ _ ht => wanted_x rfl (ht 16 rfl) rfl) ?_
    refine Dw_skip (fun _ _ _ ht => wanted_x rfl (ht 16 rfl) rfl) ?_
    refine Dw_eq (Value.bool true) (fun ρ87 w88 g hle hi ht => ?_) ?_
    ·
     obtain ⟨-, hst, -⟩ := hle
     refine StepOp_plain (op_pick_t (v := (Value.bool true)) (ht 16 rfl) rfl ?_)
     exact Goes.same hi rfl
    refine Dw_eq (Value.bool true) (fun ρ90 w91 g hle hi ht => ?_) ?_
    ·
     obtain ⟨-, hst, -⟩ := hle
     refine StepOp_plain (op_move (v := (Value.bool true)) (ht 23 rfl) ?_)
     exact Goes.same hi rfl
    refine Dw_skip (fun _ _ _ ht => wanted_x rfl (ht 24 rfl) rfl) ?_
    refine Dw_skip (fun _ _ _ ht => wanted_x rfl (ht 24 rfl) rfl) ?_
    refine Dw_skip (fun _ _ _ ht => wanted_x rfl (ht 24 rfl) rfl) ?_
    refine Dw_skip (fun _ _ _ ht => wanted_x rfl (ht 24 rfl) rfl) ?_
    refine Dw_skip (fun _ _ _ ht => wanted_x rfl (ht 24 rfl) rfl) ?_
    refine Dw_nil fun w97 g98 hl99 hi100 => ?_
    obtain ⟨-, hst101, -⟩ := hl99
    obtain ⟨hs103, p102⟩ := Step.nx hi100
    rintro _ rfl
    rintro _ rfl
    rintro _ rfl
    rintro _ rfl
    rintro _ rfl
    rintro _ rfl
    rintro _ rfl
    rintro _ rfl
    rintro _ rfl
    rintro _ rfl
    rintro _ rfl
    rintro _ rfl
    rintro _ rfl
    rintro _ rfl
    rintro _ rfl
    rintro _ rfl
    rintro _ rfl
    rintro _ rfl
    rintro _ rfl
    rintro _ rfl
    rintro _ rfl
    rintro _ rfl
    rintro _ rfl
    rintro _ rfl
    rintro _ rfl
    rintro _ rfl
    rintro _ rfl
    have p104 : Step (ks [(some b1, Obj.cells [(Value.slice a_l_records l.records.length c_l_records), (Value.int .i64 l.many), (Value.int .i64 l.synced)].toArray 52)] O) w2 (ks [(some b1, Obj.cells [(Value.slice a_l_records l.records.length c_l_records), (Value.int .i64 l.many), (Value.int .i64 l.synced)].toArray 52)] O) w97 := hst101.trans p102
    replace f_l_records := f_l_records.step p104; replace ch21 := ch21.trans p104; clear p104 hs4
    refine Rg_opx rfl (asB_ne rfl rfl) rfl ?_
    refine Rg_op rfl (op_pick_t (v := (Value.bool true)) rfl rfl ?_)
    refine Rg_nil ?_
    exact hK10 _ _ ⟨true, _, rfl, ⟨(by repeat (first | with_reducible exact Out.refl _ _ | refine Out.upd ?_ rfl | refine Out.updL ?_ rfl | refine Out.mix' ?_ rfl | exact Out.refl _ _)), rfl, rfl, trivial⟩, ch21, hs103, hm⟩
   ·
    replace hm := bif_f hm hg80
    refine Dw_eq (Value.pointer (some ⟨b1, 2, none⟩)) (fun ρ105 w106 g hle hi ht => ?_) ?_
    ·
     obtain ⟨-, hst, -⟩ := hle
     refine StepOp_g rfl (ht 11 rfl) (op_fieldAddr ty52 rfl ty3 (by decide) (ht 1 rfl) (rfl : _ = (⟨_, 2, none⟩ : Addr)) ?_)
     exact Goes.same hi rfl
    refine Dw_eq (Value.int .i64 l.synced) (fun ρ108 w109 g hle hi ht => ?_) ?_
    ·
     obtain ⟨-, hst, -⟩ := hle
     have hsn := (Step.nx hi).1
     refine StepOp_g rfl (ht 11 rfl) (op_load (cs := [(Value.slice a_l_records l.records.length c_l_records), (Value.int .i64 l.many), (Value.int .i64 l.synced)]) (i := 0) ty3 hsn (ht 12 rfl) rfl rfl ?_)
     exact Goes.same hi rfl
    refine Dw_eq (Value.bool (decide (l.synced < 0))) (fun ρ111 w112 g hle hi ht => ?_) ?_
    ·
     obtain ⟨-, hst, -⟩ := hle
     refine StepOp_g rfl (ht 11 rfl) (op_lss (ht 13 rfl) rfl ?_)
     exact Goes.same hi rfl
    refine Dw_eq (Value.bool (decide (l.synced < 0))) (fun ρ114 w115 g hle hi ht => ?_) ?_
    ·
     obtain ⟨-, hst, -⟩ := hle
     refine StepOp_plain (op_pick_f (v := (Value.bool (decide (l.synced < 0)))) (ht 11 rfl) (ht 14 rfl) ?_)
     exact Goes.same hi rfl
    refine Dw_opB (decide (l.synced < 0)) (fun ρ117 w118 g hle hi ht => ?_) (fun hg120 => ?_) (fun hg120 => ?_)
    ·
     obtain ⟨-, hst, -⟩ := hle
     refine StepOp_plain (op_move (v := (Value.bool (decide (l.synced < 0)))) (ht 15 rfl) ?_)
     exact Goes.same hi rfl
    ·
     replace hm := bif_t hm hg120
     refine Dw_skip (fun _ _ _ ht => wanted_x rfl (ht 16 rfl) rfl) ?_
     refine Dw_skip (fun _ _ _ ht => wanted_x rfl (ht 16 rfl) rfl) ?_
     refine Dw_skip (fun _ _ _ ht => wanted_x rfl (ht 16 rfl) rfl) ?_
     refine Dw_skip (fun _ _ _ ht => wanted_x rfl (ht 16 rfl) rfl) ?_
     refine Dw_skip (fun _ _ _ ht => wanted_x rfl (ht 16 rfl) rfl) ?_
     refine Dw_skip (fun _ _ _ ht => wanted_x rfl (ht 16 rfl) rfl) ?_
     refine Dw_eq (Value.bool true) (fun ρ121 w122 g hle hi ht => ?_) ?_
     ·
      obtain ⟨-, hst, -⟩ := hle
      refine StepOp_plain (op_pick_t (v := (Value.bool true)) (ht 16 rfl) rfl ?_)
      exact Goes.same hi rfl
     refine Dw_eq (Value.bool true) (fun ρ124 w125 g hle hi ht => ?_) ?_
     ·
      obtain ⟨-, hst, -⟩ := hle
      refine StepOp_plain (op_move (v := (Value.bool true)) (ht 23 rfl) ?_)
      exact Goes.same hi rfl
     refine Dw_skip (fun _ _ _ ht => wanted_x rfl (ht 24 rfl) rfl) ?_
     refine Dw_skip (fun _ _ _ ht => wanted_x rfl (ht 24 rfl) rfl) ?_
     refine Dw_skip (fun _ _ _ ht => wanted_x rfl (ht 24 rfl) rfl) ?_
     refine Dw_skip (fun _ _ _ ht => wanted_x rfl (ht 24 rfl) rfl) ?_
     refine Dw_skip (fun _ _ _ ht => wanted_x rfl (ht 24 rfl) rfl) ?_
     refine Dw_nil fun w131 g132 hl133 hi134 => ?_
     obtain ⟨-, hst135, -⟩ := hl133
     obtain ⟨hs137, p136⟩ := Step.nx hi134
     rintro _ rfl
     rintro _ rfl
     rintro _ rfl
     rintro _ rfl
     rintro _ rfl
     rintro _ rfl
     rintro _ rfl
     rintro _ rfl
     rintro _ rfl
     rintro _ rfl
     rintro _ rfl
     rintro _ rfl
     rintro _ rfl
     rintro _ rfl
     rintro _ rfl
     rintro _ rfl
     rintro _ rfl
     rintro _ rfl
     rintro _ rfl
     rintro _ rfl
     rintro _ rfl
     rintro _ rfl
     rintro _ rfl
     rintro _ rfl
     rintro _ rfl
     rintro _ rfl
     rintro _ rfl
     have p138 : Step (ks [(some b1, Obj.cells [(Value.slice a_l_records l.records.length c_l_records), (Value.int .i64 l.many), (Value.int .i64 l.synced)].toArray 52)] O) w2 (ks [(some b1, Obj.cells [(Value.slice a_l_records l.records.length c_l_records), (Value.int .i64 l.many), (Value.int .i64 l.synced)].toArray 52)] O) w131 := hst135.trans p136
     replace f_l_records := f_l_records.step p138; replace ch21 := ch21.trans p138; clear p138 hs4
     refine Rg_opx rfl (asB_ne rfl rfl) rfl ?_
     refine Rg_op rfl (op_pick_t (v := (Value.bool true)) rfl rfl ?_)
     refine Rg_nil ?_
     exact hK10 _ _ ⟨true, _, rfl, ⟨(by repeat (first | with_reducible exact Out.refl _ _ | refine Out.upd ?_ rfl | refine Out.updL ?_ rfl | refine Out.mix' ?_ rfl | exact Out.refl _ _)), rfl, rfl, trivial⟩, ch21, hs137, hm⟩
    ·
     replace hm := bif_f hm hg120
     refine Dw_eq (Value.pointer (some ⟨b1, 2, none⟩)) (fun ρ139 w140 g hle hi ht => ?_) ?_
     ·
      obtain ⟨-, hst, -⟩ := hle
      refine StepOp_g rfl (ht 16 rfl) (op_fieldAddr ty52 rfl ty3 (by decide) (ht 1 rfl) (rfl : _ = (⟨_, 2, none⟩ : Addr)) ?_)
      exact Goes.same hi rfl
     refine Dw_eq (Value.int .i64 l.synced) (fun ρ142 w143 g hle hi ht => ?_) ?_
     ·
      obtain ⟨-, hst, -⟩ := hle
      have hsn := (Step.nx hi).1
      refine StepOp_g rfl (ht 16 rfl) (op_load (cs := [(Value.slice a_l_records l.records.length c_l_records), (Value.int .i64 l.many), (Value.int .i64 l.synced)]) (i := 0) ty3 hsn (ht 17 rfl) rfl rfl ?_)
      exact Goes.same hi rfl
     refine Dw_eq (Value.pointer (some ⟨b1, 0, none⟩)) (fun ρ145 w146 g hle hi ht => ?_) ?_
     ·
      obtain ⟨-, hst, -⟩ := hle
      refine StepOp_g rfl (ht 16 rfl) (op_fieldAddr ty52 rfl ty22 (by decide) (ht 1 rfl) (rfl : _ = (⟨_, 0, none⟩ : Addr)) ?_)
      exact Goes.same hi rfl
     refine Dw_eq (Value.slice a_l_records l.records.length c_l_records) (fun ρ148 w149 g hle hi ht => ?_) ?_
     ·
      obtain ⟨-, hst, -⟩ := hle
      have hsn := (Step.nx hi).1
      refine StepOp_g rfl (ht 16 rfl) (op_load (cs := [(Value.slice a_l_records l.records.length c_l_records), (Value.int .i64 l.many), (Value.int .i64 l.synced)]) (i := 0) ty22 hsn (ht 19 rfl) rfl rfl ?_)
      exact Goes.same hi rfl
     refine Dw_eq (Value.int .i64 (l.records.length : Int)) (fun ρ151 w152 g hle hi ht => ?_) ?_
     ·
      obtain ⟨-, hst, -⟩ := hle
      refine StepOp_g rfl (ht 16 rfl) (op_len Try.underlying22 (ht 20 rfl) ?_)
      exact Goes.same hi rfl
     refine Dw_eq (Value.bool (decide ((l.records.length : Int) < l.synced))) (fun ρ154 w155 g hle hi ht => ?_) ?_
     ·
      obtain ⟨-, hst, -⟩ := hle
      refine StepOp_g rfl (ht 16 rfl) (op_gtr (ht 18 rfl) (ht 21 rfl) ?_)
      exact Goes.same hi rfl
     refine Dw_eq (Value.bool (decide ((l.records.length : Int) < l.synced))) (fun ρ157 w158 g hle hi ht => ?_) ?_
     ·
      obtain ⟨-, hst, -⟩ := hle
      refine StepOp_plain (op_pick_f (v := (Value.bool (decide ((l.records.length : Int) < l.synced)))) (ht 16 rfl) (ht 22 rfl) ?_)
      exact Goes.same hi rfl
     refine Dw_opB (decide ((l.records.length : Int) < l.synced)) (fun ρ160 w161 g hle hi ht => ?_) (fun hg163 => ?_) (fun hg163 => ?_)
     ·
      obtain ⟨-, hst, -⟩ := hle
      refine StepOp_plain (op_move (v := (Value.bool (decide ((l.records.length : Int) < l.synced)))) (ht 23 rfl) ?_)
      exact Goes.same hi rfl
     ·
      replace hm := bif_t hm hg163
      refine Dw_skip (fun _ _ _ ht => wanted_x rfl (ht 24 rfl) rfl) ?_
      refine Dw_skip (fun _ _ _ ht => wanted_x rfl (ht 24 rfl) rfl) ?_
      refine Dw_skip (fun _ _ _ ht => wanted_x rfl (ht 24 rfl) rfl) ?_
      refine Dw_skip (fun _ _ _ ht => wanted_x rfl (ht 24 rfl) rfl) ?_
      refine Dw_skip (fun _ _ _ ht => wanted_x rfl (ht 24 rfl) rfl) ?_
      refine Dw_nil fun w168 g169 hl170 hi171 => ?_
      obtain ⟨-, hst172, -⟩ := hl170
      obtain ⟨hs174, p173⟩ := Step.nx hi171
      rintro _ rfl
      rintro _ rfl
      rintro _ rfl
      rintro _ rfl
      rintro _ rfl
      rintro _ rfl
      rintro _ rfl
      rintro _ rfl
      rintro _ rfl
      rintro _ rfl
      rintro _ rfl
      rintro _ rfl
      rintro _ rfl
      rintro _ rfl
      rintro _ rfl
      rintro _ rfl
      rintro _ rfl
      rintro _ rfl
      rintro _ rfl
      rintro _ rfl
      rintro _ rfl
      rintro _ rfl
      rintro _ rfl
      rintro _ rfl
      rintro _ rfl
      rintro _ rfl
      rintro _ rfl
      have p175 : Step (ks [(some b1, Obj.cells [(Value.slice a_l_records l.records.length c_l_records), (Value.int .i64 l.many), (Value.int .i64 l.synced)].toArray 52)] O) w2 (ks [(some b1, Obj.cells [(Value.slice a_l_records l.records.length c_l_records), (Value.int .i64 l.many), (Value.int .i64 l.synced)].toArray 52)] O) w168 := hst172.trans p173
      replace f_l_records := f_l_records.step p175; replace ch21 := ch21.trans p175; clear p175 hs4
      refine Rg_opx rfl (asB_ne rfl rfl) rfl ?_
      refine Rg_op rfl (op_pick_t (v := (Value.bool true)) rfl rfl ?_)
      refine Rg_nil ?_
      exact hK10 _ _ ⟨true, _, rfl, ⟨(by repeat (first | with_reducible exact Out.refl _ _ | refine Out.upd ?_ rfl | refine Out.updL ?_ rfl | refine Out.mix' ?_ rfl | exact Out.refl _ _)), rfl, rfl, trivial⟩, ch21, hs174, hm⟩
     ·
      replace hm := bif_f hm hg163
      refine Dw_eq (Value.pointer (some ⟨b1, 0, none⟩)) (fun ρ176 w177 g hle hi ht => ?_) ?_
      ·
       obtain ⟨-, hst, -⟩ := hle
       refine StepOp_g rfl (ht 24 rfl) (op_fieldAddr ty52 rfl ty22 (by decide) (ht 1 rfl) (rfl : _ = (⟨_, 0, none⟩ : Addr)) ?_)
       exact Goes.same hi rfl
      refine Dw_eq (Value.slice a_l_records l.records.length c_l_records) (fun ρ179 w180 g hle hi ht => ?_) ?_
      ·
       obtain ⟨-, hst, -⟩ := hle
       have hsn := (Step.nx hi).1
       refine StepOp_g rfl (ht 24 rfl) (op_load (cs := [(Value.slice a_l_records l.records.length c_l_records), (Value.int .i64 l.many), (Value.int .i64 l.synced)]) (i := 0) ty22 hsn (ht 25 rfl) rfl rfl ?_)
       exact Goes.same hi rfl
      replace hm := bd hm; obtain ⟨used_1, hv185, hm⟩ := hm
      refine Dw_op (VD O [(some b1, Obj.cells [(Value.slice a_l_records l.records.length c_l_records), (Value.int .i64 l.many), (Value.int .i64 l.synced)].toArray 52)] (vI .i64) used_1) (VD.stab _ _) (fun ρ182 w183 g hle hi ht => ?_) ?_
      ·
       obtain ⟨-, hst, -⟩ := hle
       replace f_l_records := f_l_records.step hst
       refine StepOp_g rfl (ht 24 rfl) (op_call Try.call55 (c55_journal_used (O := ks (ents g ++ [(some b1, Obj.cells [(Value.slice a_l_records l.records.length c_l_records), (Value.int .i64 l.many), (Value.int .i64 l.synced)].toArray 52)]) O) (l := l.records) hi.ltw f_l_records hv185) (by simp only [List.map, Array.toList, (show ev _ (.tmp 26) = _ from (ht 26 rfl))] <;> rfl) ?_)
       rintro v186 w187 ⟨hx188, h189⟩
       exact Goes.call hi hx188 h189
      refine Dw_eq (Value.pointer (some ⟨b1, 1, none⟩)) (fun ρ191 w192 g hle hi ht => ?_) ?_
      ·
       obtain ⟨-, hst, -⟩ := hle
       refine StepOp_g rfl (ht 24 rfl) (op_fieldAddr ty52 rfl ty3 (by decide) (ht 1 rfl) (rfl : _ = (⟨_, 1, none⟩ : Addr)) ?_)
       exact Goes.same hi rfl
      refine Dw_eq (Value.int .i64 l.many) (fun ρ194 w195 g hle hi ht => ?_) ?_
      ·
       obtain ⟨-, hst, -⟩ := hle
       have hsn := (Step.nx hi).1
       refine StepOp_g rfl (ht 24 rfl) (op_load (cs := [(Value.slice a_l_records l.records.length c_l_records), (Value.int .i64 l.many), (Value.int .i64 l.synced)]) (i := 0) ty3 hsn (ht 28 rfl) rfl rfl ?_)
       exact Goes.same hi rfl
      refine Dw_nil fun w201 g202 hl203 hi204 => ?_
      obtain ⟨-, hst205, -⟩ := hl203
      obtain ⟨hs207, p206⟩ := Step.nx hi204
      rintro _ rfl
      rintro _ rfl
      rintro v208 h209
      replace h209 : Vr.vd (vI .i64) _ _ _ _ := h209
      obtain ⟨rfl, r_y210⟩ := h209
      rintro _ rfl
      rintro _ rfl
      rintro _ rfl
      rintro _ rfl
      rintro _ rfl
      rintro _ rfl
      rintro _ rfl
      rintro _ rfl
      rintro _ rfl
      rintro _ rfl
      rintro _ rfl
      rintro _ rfl
      rintro _ rfl
      rintro _ rfl
      rintro _ rfl
      rintro _ rfl
      rintro _ rfl
      rintro _ rfl
      rintro _ rfl
      rintro _ rfl
      rintro _ rfl
      rintro _ rfl
      rintro _ rfl
      rintro _ rfl
      have p211 : Step (ks [(some b1, Obj.cells [(Value.slice a_l_records l.records.length c_l_records), (Value.int .i64 l.many), (Value.int .i64 l.synced)].toArray 52)] O) w2 (ks [(some b1, Obj.cells [(Value.slice a_l_records l.records.length c_l_records), (Value.int .i64 l.many), (Value.int .i64 l.synced)].toArray 52)] O) w201 := hst205.trans p206
      replace f_l_records := f_l_records.step p211; replace ch21 := ch21.trans p211; clear p211 hs4
      refine Rg_opg rfl rfl rfl (op_gtr rfl rfl ?_)
      refine Rg_op rfl (op_pick_f (v := (Value.bool (decide (l.many < used_1)))) rfl rfl ?_)
      refine Rg_nil ?_
      exact hK10 _ _ ⟨(decide (l.many < used_1)), _, rfl, ⟨(by repeat (first | with_reducible exact Out.refl _ _ | refine Out.upd ?_ rfl | refine Out.updL ?_ rfl | refine Out.mix' ?_ rfl | exact Out.refl _ _)), rfl, rfl, trivial⟩, ch21, hs207, hm⟩

end Go.Fx



set_option linter.unusedVariables false
set_option linter.unusedSimpArgs false
set_option maxRecDepth 100000
set_option maxHeartbeats 0
namespace Go.Fx
open Go Go.RowKit Go.Proofs
def m56_slices_Clipbyte_byte_ (s : List (List UInt8)) : Option (List (List UInt8)) :=
 ck ((0 : Int) ≤ (s.length : Int) ∧ (s.length : Int) ≤ (s.length : Int)) <|
 some ((s.drop 0).take (s.length - 0))

theorem c56_slices_Clipbyte_byte_ {w : World} {O : List Nat} {s : List (List UInt8)} {a_s : Option Addr} {c_s : Nat} (hO : ∀ k ∈ O, k < w.heap.size) (f_s : SlR (rSl rU8) w O a_s c_s s) {x : (List (List UInt8))} (hm : m56_slices_Clipbyte_byte_ s = some x) :
  Ok Try.prog 56 [(Value.slice a_s s.length c_s)] w O (vCl (rSl rU8)) x := by
 unfold m56_slices_Clipbyte_byte_ at hm
 refine Fn_of_Wp (n := 9) (xs := [.tmp 2]) Try.func56 rfl Try.ntmps56 Try.results56 rfl ?_
 have hs := St.start hO
 refine Wp_seq ?_
 refine Wp_region ?_
 refine Rg_op rfl (op_assign (v := (Value.slice none 0 0)) rfl ?_)
 refine Rg_nil ?_
 refine Wp_seq ?_
 refine Wp_region ?_
 refine Rg_op rfl (op_move (v := (Value.slice a_s s.length c_s)) rfl ?_)
 refine Rg_op rfl (op_move (v := (Value.slice a_s s.length c_s)) rfl ?_)
 refine Rg_op rfl (op_len Try.underlying22 rfl ?_)
 have rl1 := inK_len f_s
 refine Rg_op rfl (op_move (v := (Value.slice a_s s.length c_s)) rfl ?_)
 refine Rg_op rfl (op_len Try.underlying22 rfl ?_)
 have rl2 := inK_len f_s
 replace hm := ck_some hm; obtain ⟨hc3, hm⟩ := hm
 refine Rg_op rfl (op_slice (q := (rSl rU8)) (l := 0) (h := s.length) (m := s.length) ty22 ty41 rfl f_s rfl rfl (bndI rfl (by omega)) (bndI rfl (by omega)) (by decide) (by omega) (by omega) (by have h_ : s.length ≤ c_s := f_s.le; omega) (by have h_ : s.length ≤ c_s := f_s.le; omega) ?_)
 intro a4 f5
 refine Rg_op rfl (op_assign (v := (Value.slice a4 ((s.drop 0).take (s.length - 0)).length (s.length - 0))) rfl ?_)
 refine Rg_nil ?_
 refine Wp_ret ?_
 have hz := step_all hs
 replace f_s := f_s.step hz; replace f5 := f5.step hz
 refine ⟨_, (show Closes [] _ _ from rfl), [(Value.slice a4 ((s.drop 0).take (s.length - 0)).length (s.length - 0))], ⟨rfl, trivial⟩, hs.ext, ?_⟩
 exact Vr.eq (a := (vCl (rSl rU8))) (x := ((s.drop 0).take (s.length - 0))) (mkCl f5 (by simp)) (Option.some.inj hm)

end Go.Fx



set_option linter.unusedVariables false
set_option linter.unusedSimpArgs false
set_option maxRecDepth 100000
set_option maxHeartbeats 0
namespace Go.Fx
open Go Go.RowKit Go.Proofs
def m30_journal_Append (l : XJournal) (b : List UInt8) : Option (XJournal × Int) :=
 (m32_journal_Check l).bind fun check_1 =>
 bif (decide (check_1 ≠ 0)) then
  some ((⟨([] : List (List UInt8)), 0, 0⟩ : XJournal), check_1)
 else
  (m54_journal_sectors b).bind fun sectors_1 =>
  (m55_journal_used l.records).bind fun used_1 =>
  bif (decide ((IntKind.wrap .i64 (l.many - used_1)) < sectors_1)) then
   some ((⟨([] : List (List UInt8)), 0, 0⟩ : XJournal), 2)
  else
   (m56_slices_Clipbyte_byte_ l.records).bind fun clip_1 =>
   (m52_slices_Clonebyte_byte_ b).bind fun clone_1 =>
   ck ((clip_1.length + [clone_1].length) * 24 ≤ 140737488355328) <|
   some ((⟨(clip_1 ++ [clone_1]), l.many, l.synced⟩ : XJournal), 0)

theorem c30_journal_Append {w : World} {O : List Nat} {l : XJournal} {b : List UInt8} {a_l_records : Option Addr} {c_l_records : Nat} {a_b : Option Addr} {c_b : Nat} (hO : ∀ k ∈ O, k < w.heap.size) (f_l_records : SlR (rSl rU8) w O a_l_records c_l_records l.records) (r_l_many : InK .i64 l.many) (r_l_synced : InK .i64 l.synced) (f_b : SlR rU8 w O a_b c_b b) {x : XJournal × Int} (hm : m30_journal_Append l b = some x) :
  Ok Try.prog 30 [(Value.agg [(Value.slice a_l_records l.records.length c_l_records), (Value.int .i64 l.many), (Value.int .i64 l.synced)].toArray), (Value.slice a_b b.length c_b)] w O (vT2 (vA rXJournal) (vI .i64)) x := by
 unfold m30_journal_Append at hm
 refine Fn_of_Wp (n := 32) (xs := [.cell 4 52, .tmp 5]) Try.func30 rfl Try.ntmps30 Try.results30 rfl ?_
 have hs := St.start hO
 refine Wp_seq ?_
 refine Wp_region ?_
 refine Rg_op rfl (op_box (cs := [(Value.slice a_l_records l.records.length c_l_records), (Value.int .i64 l.many), (Value.int .i64 l.synced)]) hs rfl rfl ?_)
 intro b1 w2 _ p3 hs4
 replace f_l_records := f_l_records.step p3; replace f_b := f_b.step p3; clear p3
 refine Rg_op rfl (op_alloc ty52 hs4 ?_)
 intro b6 w7 _ p8 hs9
 replace f_l_records := f_l_records.step p8; replace f_b := f_b.step p8; clear p8 hs4
 refine Rg_op rfl (op_assign (v := (Value.int .i64 0)) rfl ?_)
 refine Rg_nil ?_
 refine Wp_seq ?_
 refine Wp_seq ?_
 refine Wp_region ?_
 refine Rg_op rfl (op_loadA (cs := [(Value.slice a_l_records l.records.length c_l_records), (Value.int .i64 l.many), (Value.int .i64 l.synced)]) (vs := [(Value.slice a_l_records l.records.length c_l_records), (Value.int .i64 l.many), (Value.int .i64 l.synced)]) (i := 1) ty52 hs9 rfl rfl rfl rfl ?_)
 replace hm := bd hm; obtain ⟨check_1, hv11, hm⟩ := hm
 refine Rg_op rfl (op_call Try.call32 (c32_journal_Check (l := l) hs9.ltw f_l_records r_l_many r_l_synced hv11) rfl ?_)
 rintro v12 w13 ⟨hx14, h15⟩
 have hs16 := hs9.call hx14
 have p17 := Step.ext (O := ks [(some b6, Obj.cells [(Value.slice none 0 0), (Value.int .i64 0), (Value.int .i64 0)].toArray 52), (some b1, Obj.cells [(Value.slice a_l_records l.records.length c_l_records), (Value.int .i64 l.many), (Value.int .i64 l.synced)].toArray 52)] O) hx14
 clear hx14
 replace f_l_records := f_l_records.step p17; replace f_b := f_b.step p17; clear p17 hs9
 obtain ⟨rfl, r_y18⟩ := h15
 refine Rg_op rfl (op_assign (v := (Value.int .i64 check_1)) rfl ?_)
 refine Rg_nil ?_
 refine Wp_seq ?_
 refine Wp_region ?_
 refine Rg_op rfl (op_move (v := (Value.int .i64 check_1)) rfl ?_)
 refine Rg_op rfl (op_neq rfl rfl ?_)
 refine Rg_nil ?_
 refine Wp_cond rfl (fun hc19 => ?_) (fun hc19 => ?_)
 ·
  replace hm := bif_t hm hc19
  refine Wp_seq ?_
  obtain ⟨hs20, p21⟩ := hs16.sub (bs' := [(some b6, Obj.cells [(Value.slice none 0 0), (Value.int .i64 0), (Value.int .i64 0)].toArray 52)]) (.cons_cons _ (.cons _ List.Sublist.slnil))
  clear f_l_records f_b
  clear p21 hs16
  refine Wp_region ?_
  refine Rg_op rfl (op_build (vs := [(Value.slice none 0 0), (Value.int .i64 0), (Value.int .i64 0)]) (parts := []) ty52 pl52 rfl ?_)
  refine Rg_op rfl (op_move (v := (Value.int .i64 check_1)) rfl ?_)
  refine Rg_op_ (op_store (cs := [(Value.slice none 0 0), (Value.int .i64 0), (Value.int .i64 0)]) (vs := [(Value.slice none 0 0), (Value.int .i64 0), (Value.int .i64 0)]) (cs' := [(Value.slice none 0 0), (Value.int .i64 0), (Value.int .i64 0)]) (bs' := [(some b6, Obj.cells [(Value.slice none 0 0), (Value.int .i64 0), (Value.int .i64 0)].toArray 52)]) (i := 0) ty52 hs20 rfl rfl rfl rfl rfl (le_lit rfl) rfl rfl rfl ?_)
  intro w22 p23 hs24
  clear p23 hs20
  refine Rg_op rfl (op_assign (v := (Value.int .i64 check_1)) rfl ?_)
  refine Rg_nil ?_
  refine Wp_ret ?_
  have hz := step_all hs24
  refine ⟨_, (show Closes [] _ _ from rfl), [(Value.agg [(Value.slice none 0 0), (Value.int .i64 0), (Value.int .i64 0)].toArray), (Value.int .i64 check_1)], ⟨resA (cs := [(Value.slice none 0 0), (Value.int .i64 0), (Value.int .i64 0)]) (vs := [(Value.slice none 0 0), (Value.int .i64 0), (Value.int .i64 0)]) ty52 (i := 0) hs24 rfl rfl rfl rfl, rfl, trivial⟩, hs24.ext, ?_⟩
  exact Vr.eq (a := (vT2 (vA rXJournal) (vI .i64))) (x := ((⟨([] : List (List UInt8)), 0, 0⟩ : XJournal), check_1)) (mkT2 (mkA (mkVia (mk_pair (mk_sl SlR.nil_) (mk_pair (mk_int (show InK .i64 0 from by decide)) (mk_int (show InK .i64 0 from by decide)))))) ⟨rfl, r_y18⟩) (Option.some.inj hm)
 ·
  replace hm := bif_f hm hc19
  refine Wp_skip ?_
  refine Wp_seq ?_
  refine Wp_seq ?_
  refine Wp_drawR (g0 := []) (m := 7) (fl := []) (TS_inv hs16) rfl (.inl rfl) rfl (by decide +kernel) ?_  -- 4
  refine Dw_eq (Value.slice a_b b.length c_b) (fun ρ25 w26 g hle hi ht => ?_) ?_
  ·
   obtain ⟨-, hst, -⟩ := hle
   refine StepOp_plain (op_move (v := (Value.slice a_b b.length c_b)) (ht 1 rfl) ?_)
   exact Goes.same hi rfl
  replace hm := bd hm; obtain ⟨sectors_1, hv31, hm⟩ := hm
  refine Dw_op (VD O [(some b6, Obj.cells [(Value.slice none 0 0), (Value.int .i64 0), (Value.int .i64 0)].toArray 52), (some b1, Obj.cells [(Value.slice a_l_records l.records.length c_l_records), (Value.int .i64 l.many), (Value.int .i64 l.synced)].toArray 52)] (vI .i64) sectors_1) (VD.stab _ _) (fun ρ28 w29 g hle hi ht => ?_) ?_
  ·
   obtain ⟨-, hst, -⟩ := hle
   replace f_b := f_b.step hst
   refine StepOp_plain (op_call Try.call54 (c54_journal_sectors (O := ks (ents g ++ [(some b6, Obj.cells [(Value.slice none 0 0), (Value.int .i64 0), (Value.int .i64 0)].toArray 52), (some b1, Obj.cells [(Value.slice a_l_records l.records.length c_l_records), (Value.int .i64 l.many), (Value.int .i64 l.synced)].toArray 52)]) O) (b := b) hi.ltw f_b hv31) (by simp only [List.map, Array.toList, (show ev _ (.tmp 13) = _ from (ht 13 rfl))] <;> rfl) ?_)
   rintro v32 w33 ⟨hx34, h35⟩
   exact Goes.call hi hx34 h35
  refine Dw_eq (Value.pointer (some ⟨b1, 1, none⟩)) (fun ρ37 w38 g hle hi ht => ?_) ?_
  ·
   obtain ⟨-, hst, -⟩ := hle
   refine StepOp_plain (op_fieldAddr ty52 rfl ty3 (by decide) (ht 2 rfl) (rfl : _ = (⟨_, 1, none⟩ : Addr)) ?_)
   exact Goes.same hi rfl
  refine Dw_eq (Value.int .i64 l.many) (fun ρ40 w41 g hle hi ht => ?_) ?_
  ·
   obtain ⟨-, hst, -⟩ := hle
   have hsn := (Step.nx hi).1
   refine StepOp_plain (op_load (cs := [(Value.slice a_l_records l.records.length c_l_records), (Value.int .i64 l.many), (Value.int .i64 l.synced)]) (i := 1) ty3 hsn (ht 15 rfl) rfl rfl ?_)
   exact Goes.same hi rfl
  refine Dw_eq (Value.pointer (some ⟨b1, 0, none⟩)) (fun ρ43 w44 g hle hi ht => ?_) ?_
  ·
   obtain ⟨-, hst, -⟩ := hle
   refine StepOp_plain (op_fieldAddr ty52 rfl ty22 (by decide) (ht 2 rfl) (rfl : _ = (⟨_, 0, none⟩ : Addr)) ?_)
   exact Goes.same hi rfl
  refine Dw_eq (Value.slice a_l_records l.records.length c_l_records) (fun ρ46 w47 g hle hi ht => ?_) ?_
  ·
   obtain ⟨-, hst, -⟩ := hle
   have hsn := (Step.nx hi).1
   refine StepOp_plain (op_load (cs := [(Value.slice a_l_records l.records.length c_l_records), (Value.int .i64 l.many), (Value.int .i64 l.synced)]) (i := 1) ty22 hsn (ht 17 rfl) rfl rfl ?_)
   exact Goes.same hi rfl
  replace hm := bd hm; obtain ⟨used_1, hv52, hm⟩ := hm
  refine Dw_op (VD O [(some b6, Obj.cells [(Value.slice none 0 0), (Value.int .i64 0), (Value.int .i64 0)].toArray 52), (some b1, Obj.cells [(Value.slice a_l_records l.records.length c_l_records), (Value.int .i64 l.many), (Value.int .i64 l.synced)].toArray 52)] (vI .i64) used_1) (VD.stab _ _) (fun ρ49 w50 g hle hi ht => ?_) ?_
  ·
   obtain ⟨-, hst, -⟩ := hle
   replace f_l_records := f_l_records.step hst
   refine StepOp_plain (op_call Try.call55 (c55_journal_used (O := ks (ents g ++ [(some b6, Obj.cells [(Value.slice none 0 0), (Value.int .i64 0), (Value.int .i64 0)].toArray 52), (some b1, Obj.cells [(Value.slice a_l_records l.records.length c_l_records), (Value.int .i64 l.many), (Value.int .i64 l.synced)].toArray 52)]) O) (l := l.records) hi.ltw f_l_records hv52) (by simp only [List.map, Array.toList, (show ev _ (.tmp 18) = _ from (ht 18 rfl))] <;> rfl) ?_)
   rintro v53 w54 ⟨hx55, h56⟩
   exact Goes.call hi hx55 h56
  refine Dw_nil fun w62 g63 hl64 hi65 => ?_
  obtain ⟨-, hst66, -⟩ := hl64
  obtain ⟨hs68, p67⟩ := Step.nx hi65
  rintro v69 h70
  replace h70 : Vr.vd (vI .i64) _ _ _ _ := h70
  obtain ⟨rfl, r_y71⟩ := h70
  rintro _ rfl
  rintro _ rfl
  rintro _ rfl
  rintro _ rfl
  rintro v72 h73
  replace h73 : Vr.vd (vI .i64) _ _ _ _ := h73
  obtain ⟨rfl, r_y74⟩ := h73
  rintro _ rfl
  have p75 : Step (ks [(some b6, Obj.cells [(Value.slice none 0 0), (Value.int .i64 0), (Value.int .i64 0)].toArray 52), (some b1, Obj.cells [(Value.slice a_l_records l.records.length c_l_records), (Value.int .i64 l.many), (Value.int .i64 l.synced)].toArray 52)] O) w13 (ks [(some b6, Obj.cells [(Value.slice none 0 0), (Value.int .i64 0), (Value.int .i64 0)].toArray 52), (some b1, Obj.cells [(Value.slice a_l_records l.records.length c_l_records), (Value.int .i64 l.many), (Value.int .i64 l.synced)].toArray 52)] O) w62 := hst66.trans p67
  replace f_l_records := f_l_records.step p75; replace f_b := f_b.step p75; clear p75 hs16
  refine Rg_op rfl (op_subw rfl rfl ?_)
  refine Rg_op rfl (op_gtr rfl rfl ?_)
  refine Rg_nil ?_
  refine Wp_cond rfl (fun hc76 => ?_) (fun hc76 => ?_)
  ·
   replace hm := bif_t hm hc76
   refine Wp_seq ?_
   obtain ⟨hs77, p78⟩ := hs68.sub (bs' := [(some b6, Obj.cells [(Value.slice none 0 0), (Value.int .i64 0), (Value.int .i64 0)].toArray 52)]) (.cons_cons _ (.cons _ List.Sublist.slnil))
   clear f_l_records f_b
   clear p78 hs68
   refine Wp_region ?_
   refine Rg_op rfl (op_build (vs := [(Value.slice none 0 0), (Value.int .i64 0), (Value.int .i64 0)]) (parts := []) ty52 pl52 rfl ?_)
   refine Rg_op_ (op_store (cs := [(Value.slice none 0 0), (Value.int .i64 0), (Value.int .i64 0)]) (vs := [(Value.slice none 0 0), (Value.int .i64 0), (Value.int .i64 0)]) (cs' := [(Value.slice none 0 0), (Value.int .i64 0), (Value.int .i64 0)]) (bs' := [(some b6, Obj.cells [(Value.slice none 0 0), (Value.int .i64 0), (Value.int .i64 0)].toArray 52)]) (i := 0) ty52 hs77 rfl rfl rfl rfl rfl (le_lit rfl) rfl rfl rfl ?_)
   intro w79 p80 hs81
   clear p80 hs77
   refine Rg_op rfl (op_assign (v := (Value.int .i64 2)) rfl ?_)
   refine Rg_nil ?_
   refine Wp_ret ?_
   have hz := step_all hs81
   refine ⟨_, (show Closes [] _ _ from rfl), [(Value.agg [(Value.slice none 0 0), (Value.int .i64 0), (Value.int .i64 0)].toArray), (Value.int .i64 2)], ⟨resA (cs := [(Value.slice none 0 0), (Value.int .i64 0), (Value.int .i64 0)]) (vs := [(Value.slice none 0 0), (Value.int .i64 0), (Value.int .i64 0)]) ty52 (i := 0) hs81 rfl rfl rfl rfl, rfl, trivial⟩, hs81.ext, ?_⟩
   exact Vr.eq (a := (vT2 (vA rXJournal) (vI .i64))) (x := ((⟨([] : List (List UInt8)), 0, 0⟩ : XJournal), 2)) (mkT2 (mkA (mkVia (mk_pair (mk_sl SlR.nil_) (mk_pair (mk_int (show InK .i64 0 from by decide)) (mk_int (show InK .i64 0 from by decide)))))) ⟨rfl, (show InK .i64 2 from by decide)⟩) (Option.some.inj hm)
  ·
   replace hm := bif_f hm hc76
   refine Wp_skip ?_
   refine Wp_seq ?_
   refine Wp_region ?_
   refine Rg_op rfl (op_fieldAddr ty52 rfl ty22 (by decide) rfl (rfl : _ = (⟨_, 0, none⟩ : Addr)) ?_)
   refine Rg_op rfl (op_load (cs := [(Value.slice a_l_records l.records.length c_l_records), (Value.int .i64 l.many), (Value.int .i64 l.synced)]) (i := 1) ty22 hs68 rfl rfl rfl ?_)
   replace hm := bd hm; obtain ⟨clip_1, hv82, hm⟩ := hm
   refine Rg_op rfl (op_call Try.call56 (c56_slices_Clipbyte_byte_ (s := l.records) hs68.ltw f_l_records hv82) rfl ?_)
   rintro v83 w84 ⟨hx85, h86⟩
   have hs87 := hs68.call hx85
   have p88 := Step.ext (O := ks [(some b6, Obj.cells [(Value.slice none 0 0), (Value.int .i64 0), (Value.int .i64 0)].toArray 52), (some b1, Obj.cells [(Value.slice a_l_records l.records.length c_l_records), (Value.int .i64 l.many), (Value.int .i64 l.synced)].toArray 52)] O) hx85
   clear hx85
   replace f_l_records := f_l_records.step p88; replace f_b := f_b.step p88; clear p88 hs68
   obtain ⟨a89, rfl, f90⟩ := h86
   refine Rg_op rfl (op_move (v := (Value.slice a_b b.length c_b)) rfl ?_)
   replace hm := bd hm; obtain ⟨clone_1, hv91, hm⟩ := hm
   refine Rg_op rfl (op_call Try.call52 (g52_slices_Clonebyte_byte_ (s := b) hs87.ltw f_b hv91) rfl ?_)
   rintro _ w93 ⟨hx94, a97, c98, k99, o100, rfl, hk101, f102⟩
   obtain ⟨hs96, p103⟩ := hs87.callG (o := o100) hx94 hk101
   rw [← ks_cons (o := o100)] at f102
   replace f_l_records := f_l_records.step p103; replace f_b := f_b.step p103; replace f90 := f90.step p103; clear p103 hs87
   obtain ⟨hs106, p107, f105⟩ := Gs.publish (i := 0) hs96 rfl f102
   replace f_l_records := f_l_records.step p107; replace f_b := f_b.step p107; replace f90 := f90.step p107; clear p107 hs96
   refine Rg_op rfl (op_buildSlice (cs := [(Value.slice a97 clone_1.length c98)]) (parts := [(0, .tmp 27)]) ty22 ty41 hs106 (by decide) rfl ?_)
   intro b108 w109 hx112 p110 hs111
   replace f_l_records := f_l_records.step p110; replace f_b := f_b.step p110; replace f90 := f90.step p110; replace f105 := f105.step p110; clear p110 hs106
   replace hm := ck_some hm; obtain ⟨hc114, hm⟩ := hm
   refine Rg_op rfl (op_appendP (q := (rSl rU8)) (xs := clip_1) (ys := [clone_1]) (news := [(Value.slice a97 clone_1.length c98)]) ty22 ty41 rfl (by decide) hs111 rfl f90 rfl (Src.owned' (len := 1) (hs111.get (i := 0) rfl) rfl) (show Els (rSl rU8) _ _ [(Value.slice a97 clone_1.length c98)] [clone_1] from ⟨_, _, rfl, (mk_sl f105), Els.nil⟩) (le_lit rfl) hc114 (by have := hc114; simp only [maxLen]; omega) ?_)
   intro a118 c119 w115 p116 hs117 f120
   replace f_l_records := f_l_records.step p116; replace f_b := f_b.step p116; replace f90 := f90.step p116; replace f105 := f105.step p116; clear p116 hs111
   have hs121 := hs117.drop 0
   replace f_l_records := f_l_records.step (hs117.dropS 0)
   replace f_b := f_b.step (hs117.dropS 0)
   replace f90 := f90.step (hs117.dropS 0)
   replace f105 := f105.step (hs117.dropS 0)
   replace f120 := f120.step (hs117.dropS 0); clear hs117
   refine Rg_op rfl (op_fieldAddr ty52 rfl ty22 (by decide) rfl (rfl : _ = (⟨_, 0, none⟩ : Addr)) ?_)
   refine Rg_op_ (op_store (cs := [(Value.slice a_l_records l.records.length c_l_records), (Value.int .i64 l.many), (Value.int .i64 l.synced)]) (vs := [(Value.slice a118 (clip_1 ++ [clone_1]).length c119)]) (cs' := [(Value.slice a118 (clip_1 ++ [clone_1]).length c119), (Value.int .i64 l.many), (Value.int .i64 l.synced)]) (bs' := [(some b6, Obj.cells [(Value.slice none 0 0), (Value.int .i64 0), (Value.int .i64 0)].toArray 52), (some b1, Obj.cells [(Value.slice a118 (clip_1 ++ [clone_1]).length c119), (Value.int .i64 l.many), (Value.int .i64 l.synced)].toArray 52)]) (i := 1) ty22 hs121 rfl rfl rfl rfl rfl (le_lit rfl) rfl rfl rfl ?_)
   intro w122 p123 hs124
   replace f_l_records := f_l_records.step p123; replace f_b := f_b.step p123; replace f90 := f90.step p123; replace f105 := f105.step p123; replace f120 := f120.step p123; clear p123 hs121
   refine Rg_nil ?_
   refine Wp_seq ?_
   clear f_l_records f_b f90 f105
   refine Wp_reset [] [(2, (Value.pointer (some ⟨b1, 0, none⟩))), (4, (Value.pointer (some ⟨b6, 0, none⟩)))] rfl ⟨rfl, rfl, trivial⟩ fun ξ125 => ?_
   refine Wp_region ?_
   refine Rg_op rfl (op_loadA (cs := [(Value.slice a118 (clip_1 ++ [clone_1]).length c119), (Value.int .i64 l.many), (Value.int .i64 l.synced)]) (vs := [(Value.slice a118 (clip_1 ++ [clone_1]).length c119), (Value.int .i64 l.many), (Value.int .i64 l.synced)]) (i := 1) ty52 hs124 rfl rfl rfl rfl ?_)
   refine Rg_op_ (op_store (cs := [(Value.slice none 0 0), (Value.int .i64 0), (Value.int .i64 0)]) (vs := [(Value.slice a118 (clip_1 ++ [clone_1]).length c119), (Value.int .i64 l.many), (Value.int .i64 l.synced)]) (cs' := [(Value.slice a118 (clip_1 ++ [clone_1]).length c119), (Value.int .i64 l.many), (Value.int .i64 l.synced)]) (bs' := [(some b6, Obj.cells [(Value.slice a118 (clip_1 ++ [clone_1]).length c119), (Value.int .i64 l.many), (Value.int .i64 l.synced)].toArray 52), (some b1, Obj.cells [(Value.slice a118 (clip_1 ++ [clone_1]).length c119), (Value.int .i64 l.many), (Value.int .i64 l.synced)].toArray 52)]) (i := 0) ty52 hs124 rfl rfl rfl rfl rfl (le_lit rfl) rfl rfl rfl ?_)
   intro w126 p127 hs128
   replace f120 := f120.step p127; clear p127 hs124
   refine Rg_op rfl (op_assign (v := (Value.int .i64 0)) rfl ?_)
   refine Rg_nil ?_
   refine Wp_ret ?_
   have hz := step_all hs128
   replace f120 := f120.step hz
   refine ⟨_, (show Closes [] _ _ from rfl), [(Value.agg [(Value.slice a118 (clip_1 ++ [clone_1]).length c119), (Value.int .i64 l.many), (Value.int .i64 l.synced)].toArray), (Value.int .i64 0)], ⟨resA (cs := [(Value.slice a118 (clip_1 ++ [clone_1]).length c119), (Value.int .i64 l.many), (Value.int .i64 l.synced)]) (vs := [(Value.slice a118 (clip_1 ++ [clone_1]).length c119), (Value.int .i64 l.many), (Value.int .i64 l.synced)]) ty52 (i := 0) hs128 rfl rfl rfl rfl, rfl, trivial⟩, hs128.ext, ?_⟩
   exact Vr.eq (a := (vT2 (vA rXJournal) (vI .i64))) (x := ((⟨(clip_1 ++ [clone_1]), l.many, l.synced⟩ : XJournal), 0)) (mkT2 (mkA (mkVia (mk_pair (mk_sl f120) (mk_pair (mk_int r_l_many) (mk_int r_l_synced))))) ⟨rfl, (show InK .i64 0 from by decide)⟩) (Option.some.inj hm)

end Go.Fx



set_option linter.unusedVariables false
set_option linter.unusedSimpArgs false
set_option maxRecDepth 100000
set_option maxHeartbeats 0
namespace Go.Fx
open Go Go.RowKit Go.Proofs
def m34_journal_Room (l : XJournal) : Option Int :=
 (m32_journal_Check l).bind fun check_1 =>
 bif (decide (check_1 ≠ 0)) then
  some 0
 else
  (m55_journal_used l.records).bind fun used_1 =>
  some (IntKind.wrap .i64 (112 * (IntKind.wrap .i64 (l.many - used_1))))

theorem c34_journal_Room {w : World} {O : List Nat} {l : XJournal} {a_l_records : Option Addr} {c_l_records : Nat} (hO : ∀ k ∈ O, k < w.heap.size) (f_l_records : SlR (rSl rU8) w O a_l_records c_l_records l.records) (r_l_many : InK .i64 l.many) (r_l_synced : InK .i64 l.synced) {x : Int} (hm : m34_journal_Room l = some x) :
  Ok Try.prog 34 [(Value.agg [(Value.slice a_l_records l.records.length c_l_records), (Value.int .i64 l.many), (Value.int .i64 l.synced)].toArray)] w O (vI .i64) x := by
 unfold m34_journal_Room at hm
 refine Fn_of_Wp (n := 13) (xs := [.tmp 2]) Try.func34 rfl Try.ntmps34 Try.results34 rfl ?_
 have hs := St.start hO
 refine Wp_seq ?_
 refine Wp_region ?_
 refine Rg_op rfl (op_box (cs := [(Value.slice a_l_records l.records.length c_l_records), (Value.int .i64 l.many), (Value.int .i64 l.synced)]) hs rfl rfl ?_)
 intro b1 w2 _ p3 hs4
 replace f_l_records := f_l_records.step p3; clear p3
 refine Rg_op rfl (op_assign (v := (Value.int .i64 0)) rfl ?_)
 refine Rg_nil ?_
 refine Wp_seq ?_
 refine Wp_seq ?_
 refine Wp_region ?_
 refine Rg_op rfl (op_loadA (cs := [(Value.slice a_l_records l.records.length c_l_records), (Value.int .i64 l.many), (Value.int .i64 l.synced)]) (vs := [(Value.slice a_l_records l.records.length c_l_records), (Value.int .i64 l.many), (Value.int .i64 l.synced)]) (i := 0) ty52 hs4 rfl rfl rfl rfl ?_)
 replace hm := bd hm; obtain ⟨check_1, hv6, hm⟩ := hm
 refine Rg_op rfl (op_call Try.call32 (c32_journal_Check (l := l) hs4.ltw f_l_records r_l_many r_l_synced hv6) rfl ?_)
 rintro v7 w8 ⟨hx9, h10⟩
 have hs11 := hs4.call hx9
 have p12 := Step.ext (O := ks [(some b1, Obj.cells [(Value.slice a_l_records l.records.length c_l_records), (Value.int .i64 l.many), (Value.int .i64 l.synced)].toArray 52)] O) hx9
 clear hx9
 replace f_l_records := f_l_records.step p12; clear p12 hs4
 obtain ⟨rfl, r_y13⟩ := h10
 refine Rg_op rfl (op_neq rfl rfl ?_)
 refine Rg_nil ?_
 refine Wp_cond rfl (fun hc14 => ?_) (fun hc14 => ?_)
 ·
  replace hm := bif_t hm hc14
  refine Wp_seq ?_
  obtain ⟨hs15, p16⟩ := hs11.sub (bs' := []) (.cons _ List.Sublist.slnil)
  clear f_l_records
  clear p16 hs11
  refine Wp_region ?_
  refine Rg_op rfl (op_assign (v := (Value.int .i64 0)) rfl ?_)
  refine Rg_nil ?_
  refine Wp_ret ?_
  have hz := step_all hs15
  refine ⟨_, (show Closes [] _ _ from rfl), [(Value.int .i64 0)], ⟨rfl, trivial⟩, hs15.ext, ?_⟩
  exact Vr.eq (a := (vI .i64)) (x := 0) ⟨rfl, (show InK .i64 0 from by decide)⟩ (Option.some.inj hm)
 ·
  replace hm := bif_f hm hc14
  refine Wp_skip ?_
  refine Wp_seq ?_
  refine Wp_drawR (g0 := []) (m := 5) (fl := []) (TS_inv hs11) rfl (.inl rfl) rfl (by decide +kernel) ?_  -- 3
  refine Dw_eq (Value.pointer (some ⟨b1, 1, none⟩)) (fun ρ17 w18 g hle hi ht => ?_) ?_
  ·
   obtain ⟨-, hst, -⟩ := hle
   refine StepOp_plain (op_fieldAddr ty52 rfl ty3 (by decide) (ht 1 rfl) (rfl : _ = (⟨_, 1, none⟩ : Addr)) ?_)
   exact Goes.same hi rfl
  refine Dw_eq (Value.int .i64 l.many) (fun ρ20 w21 g hle hi ht => ?_) ?_
  ·
   obtain ⟨-, hst, -⟩ := hle
   have hsn := (Step.nx hi).1
   refine StepOp_plain (op_load (cs := [(Value.slice a_l_records l.records.length c_l_records), (Value.int .i64 l.many), (Value.int .i64 l.synced)]) (i := 0) ty3 hsn (ht 6 rfl) rfl rfl ?_)
   exact Goes.same hi rfl
  refine Dw_eq (Value.pointer (some ⟨b1, 0, none⟩)) (fun ρ23 w24 g hle hi ht => ?_) ?_
  ·
   obtain ⟨-, hst, -⟩ := hle
   refine StepOp_plain (op_fieldAddr ty52 rfl ty22 (by decide) (ht 1 rfl) (rfl : _ = (⟨_, 0, none⟩ : Addr)) ?_)
   exact Goes.same hi rfl
  refine Dw_eq (Value.slice a_l_records l.records.length c_l_records) (fun ρ26 w27 g hle hi ht => ?_) ?_
  ·
   obtain ⟨-, hst, -⟩ := hle
   have hsn := (Step.nx hi).1
   refine StepOp_plain (op_load (cs := [(Value.slice a_l_records l.records.length c_l_records), (Value.int .i64 l.many), (Value.int .i64 l.synced)]) (i := 0) ty22 hsn (ht 8 rfl) rfl rfl ?_)
   exact Goes.same hi rfl
  replace hm := bd hm; obtain ⟨used_1, hv32, hm⟩ := hm
  refine Dw_op (VD O [(some b1, Obj.cells [(Value.slice a_l_records l.records.length c_l_records), (Value.int .i64 l.many), (Value.int .i64 l.synced)].toArray 52)] (vI .i64) used_1) (VD.stab _ _) (fun ρ29 w30 g hle hi ht => ?_) ?_
  ·
   obtain ⟨-, hst, -⟩ := hle
   replace f_l_records := f_l_records.step hst
   refine StepOp_plain (op_call Try.call55 (c55_journal_used (O := ks (ents g ++ [(some b1, Obj.cells [(Value.slice a_l_records l.records.length c_l_records), (Value.int .i64 l.many), (Value.int .i64 l.synced)].toArray 52)]) O) (l := l.records) hi.ltw f_l_records hv32) (by simp only [List.map, Array.toList, (show ev _ (.tmp 9) = _ from (ht 9 rfl))] <;> rfl) ?_)
   rintro v33 w34 ⟨hx35, h36⟩
   exact Goes.call hi hx35 h36
  refine Dw_nil fun w42 g43 hl44 hi45 => ?_
  obtain ⟨-, hst46, -⟩ := hl44
  obtain ⟨hs48, p47⟩ := Step.nx hi45
  rintro v49 h50
  replace h50 : Vr.vd (vI .i64) _ _ _ _ := h50
  obtain ⟨rfl, r_y51⟩ := h50
  rintro _ rfl
  rintro _ rfl
  rintro _ rfl
  rintro _ rfl
  have p52 : Step (ks [(some b1, Obj.cells [(Value.slice a_l_records l.records.length c_l_records), (Value.int .i64 l.many), (Value.int .i64 l.synced)].toArray 52)] O) w8 (ks [(some b1, Obj.cells [(Value.slice a_l_records l.records.length c_l_records), (Value.int .i64 l.many), (Value.int .i64 l.synced)].toArray 52)] O) w42 := hst46.trans p47
  replace f_l_records := f_l_records.step p52; clear p52 hs11
  refine Rg_op rfl (op_subw rfl rfl ?_)
  refine Rg_op rfl (op_mulw rfl rfl ?_)
  refine Rg_op rfl (op_assign (v := (Value.int .i64 (IntKind.wrap .i64 (112 * (IntKind.wrap .i64 (l.many - used_1)))))) rfl ?_)
  refine Rg_nil ?_
  refine Wp_ret ?_
  have hz := step_all hs48
  replace f_l_records := f_l_records.step hz
  refine ⟨_, (show Closes [] _ _ from rfl), [(Value.int .i64 (IntKind.wrap .i64 (112 * (IntKind.wrap .i64 (l.many - used_1)))))], ⟨rfl, trivial⟩, hs48.ext, ?_⟩
  exact Vr.eq (a := (vI .i64)) (x := (IntKind.wrap .i64 (112 * (IntKind.wrap .i64 (l.many - used_1))))) ⟨rfl, (inK_wrap .i64 _)⟩ (Option.some.inj hm)

end Go.Fx



set_option linter.unusedVariables false
set_option linter.unusedSimpArgs false
set_option maxRecDepth 100000
set_option maxHeartbeats 0
namespace Go.Fx
open Go Go.RowKit Go.Proofs
def m60_journal_get_B0 (b : List UInt8) (sf5 : Int → Int → Option Int) (n_1 : Int) (v_1 : Int) : Option Int :=
 bif (decide (v_1 < (b.length : Int))) then
  ck ((0 : Int) ≤ v_1 ∧ v_1 < (b.length : Int)) <|
  sf5 (Go.bits .or .u64 (IntKind.wrap .u64 (n_1 * 2 ^ min 8 (IntKind.bits .u64))) ((b.getD v_1.toNat default).toNat : Int)) (IntKind.wrap .i64 (v_1 + 1))
 else
  some n_1

def m60_journal_get (b : List UInt8) : Option Int :=
 loop2 (m60_journal_get_B0 b) (((b.length : Int) - 0).toNat + 1) 0 0

theorem c60_journal_get {w : World} {O : List Nat} {b : List UInt8} {a_b : Option Addr} {c_b : Nat} (hO : ∀ k ∈ O, k < w.heap.size) (f_b : SlR rU8 w O a_b c_b b) {x : Int} (hm : m60_journal_get b = some x) :
  Ok Try.prog 60 [(Value.slice a_b b.length c_b)] w O (vI .u64) x := by
 unfold m60_journal_get at hm
 refine Fn_of_Wp (n := 18) (xs := [.tmp 2]) Try.func60 rfl Try.ntmps60 Try.results60 rfl ?_
 have hs := St.start hO
 refine Wp_seq ?_
 refine Wp_region ?_
 refine Rg_op rfl (op_assign (v := (Value.int .u64 0)) rfl ?_)
 refine Rg_nil ?_
 refine Wp_seq ?_
 refine Wp_seq ?_
 refine Wp_region ?_
 refine Rg_op rfl (op_move (v := (Value.slice a_b b.length c_b)) rfl ?_)
 refine Rg_op rfl (op_len Try.underlying41 rfl ?_)
 have rl1 := inK_len f_b
 refine Rg_op rfl (op_move (v := (Value.int .i64 0)) rfl ?_)
 refine Rg_nil ?_
 refine Wp_block ?_
 refine Wp_reset [] [(2, (Value.int .u64 0)), (5, (Value.slice a_b b.length c_b)), (6, (Value.int .i64 (b.length : Int))), (7, (Value.int .i64 0))] rfl ⟨rfl, rfl, rfl, rfl, trivial⟩ fun ξ4 => ?_
 refine Wp_loopM [2, 4, 7, 8, 9, 10, 11, 12, 13, 14, 15, 16] (fun m fr w' => ∃ (n_1 : Int) (v_1 : Int) (Ebs : Ents), Ebs = [] ∧ fr [] [(2, (Value.int .u64 n_1)), (7, (Value.int .i64 v_1))] ∧ Step (ks [] O) w (ks Ebs O) w' ∧ St ⟨w, [], []⟩ O w' Ebs ∧ InK .u64 n_1 ∧ InK .i64 v_1 ∧ loop2 (m60_journal_get_B0 b) m n_1 v_1 = some x) (((b.length : Int) - 0).toNat + 1) ⟨0, 0, _, rfl, ⟨Out.refl _ _, rfl, rfl, rfl, trivial⟩, Step.refl _ _, hs, (show InK .u64 0 from by decide), (show InK .i64 0 from by decide), hm⟩ ?_ ?_
 · rintro _ _ ⟨_, _, _, _, _, _, _, _, _, hm⟩; exact loop2_z hm
 ·
  rintro m8 K7 hK7 ρ13 w9 ⟨n_1, v_1, Ebs, hEbs, hfr12, hst11, hs10, r_y2, r_y3, hm⟩
  obtain ⟨sf5, hsf6, hm⟩ := loop2_s hm; unfold m60_journal_get_B0 at hm
  subst hEbs; rw [hfr12.eq]; clear hfr12
  replace f_b := f_b.step hst11
  have ch14 := hst11
  refine Wp_seq ?_
  refine Wp_region ?_
  refine Rg_op rfl (op_lss rfl rfl ?_)
  refine Rg_nil ?_
  refine Wp_seq ?_
  refine Wp_cond rfl (fun hc15 => ?_) (fun hc15 => ?_)
  ·
   replace hm := bif_t hm hc15
   refine Wp_skip ?_
   refine Wp_seq ?_
   refine Wp_block ?_
   refine Wp_seq ?_
   refine Wp_region ?_
   replace hm := ck_some hm; obtain ⟨hc16, hm⟩ := hm
   refine Rg_op rfl (op_indexAddr (q := rU8) ty41 ty5 rfl rfl f_b rfl hc16.1 hc16.2 ?_)
   intro p17 f18
   refine Rg_op rfl (op_loadP ty5 rfl f18 rfl ?_)
   intro v19 h20
   obtain rfl := un_u8 h20
   refine Rg_op rfl (op_assign (v := (Value.int .u8 ((b.getD v_1.toNat default).toNat : Int))) rfl ?_)
   refine Rg_nil ?_
   clear f18
   refine Wp_region ?_
   refine Rg_op rfl (op_move (v := (Value.int .u64 n_1)) rfl ?_)
   refine Rg_op rfl (op_shl rfl rfl (by decide) ?_)
   refine Rg_op rfl (op_move (v := (Value.int .u8 ((b.getD v_1.toNat default).toNat : Int))) rfl ?_)
   refine Rg_op rfl (op_conv_u8 Try.underlying5 Try.underlying93 rfl (by decide) ?_)
   refine Rg_op rfl (op_or rfl rfl ?_)
   refine Rg_op rfl (op_assign (v := (Value.int .u64 (Go.bits .or .u64 (IntKind.wrap .u64 (n_1 * 2 ^ min 8 (IntKind.bits .u64))) ((b.getD v_1.toNat default).toNat : Int)))) rfl ?_)
   refine Rg_nil ?_
   refine Wp_region ?_
   refine Rg_op rfl (op_addw rfl rfl ?_)
   refine Rg_op rfl (op_move (v := (Value.int .i64 (IntKind.wrap .i64 (v_1 + 1)))) rfl ?_)
   refine Rg_nil ?_
   exact hK7 _ _ ⟨(Go.bits .or .u64 (IntKind.wrap .u64 (n_1 * 2 ^ min 8 (IntKind.bits .u64))) ((b.getD v_1.toNat default).toNat : Int)), (IntKind.wrap .i64 (v_1 + 1)), _, rfl, ⟨(by repeat (first | with_reducible exact Out.refl _ _ | refine Out.upd ?_ rfl | refine Out.updL ?_ rfl | refine Out.mix' ?_ rfl | exact Out.refl _ _)), rfl, rfl, rfl, trivial⟩, ch14, hs10, (inK_bits .or .u64 _ _), (inK_wrap .i64 _), jnE2 hsf6 hm⟩
  ·
   replace hm := bif_f hm hc15
   refine Wp_exit ?_
   refine Wp_seq ?_
   clear f_b
   refine Wp_region ?_
   refine Rg_op rfl (op_move (v := (Value.int .u64 n_1)) rfl ?_)
   refine Rg_op rfl (op_assign (v := (Value.int .u64 n_1)) rfl ?_)
   refine Rg_nil ?_
   refine Wp_ret ?_
   have hz := step_all hs10
   refine ⟨_, (show Closes [] _ _ from rfl), [(Value.int .u64 n_1)], ⟨rfl, trivial⟩, hs10.ext, ?_⟩
   exact Vr.eq (a := (vI .u64)) (x := n_1) ⟨rfl, r_y2⟩ (Option.some.inj hm)

end Go.Fx



set_option linter.unusedVariables false
set_option linter.unusedSimpArgs false
set_option maxRecDepth 100000
set_option maxHeartbeats 0
namespace Go.Fx
open Go Go.RowKit Go.Proofs
def m62_bytes_Equal (a : List UInt8) (b : List UInt8) : Option Bool :=
 some (decide (a = b))

theorem c62_bytes_Equal {w : World} {O : List Nat} {a : List UInt8} {b : List UInt8} {a_a : Option Addr} {c_a : Nat} {a_b : Option Addr} {c_b : Nat} (hO : ∀ k ∈ O, k < w.heap.size) (f_a : SlR rU8 w O a_a c_a a) (f_b : SlR rU8 w O a_b c_b b) {x : Bool} (hm : m62_bytes_Equal a b = some x) :
  Ok Try.prog 62 [(Value.slice a_a a.length c_a), (Value.slice a_b b.length c_b)] w O vB x := by
 unfold m62_bytes_Equal at hm
 refine Fn_of_Wp (n := 10) (xs := [.tmp 4]) Try.func62 rfl Try.ntmps62 Try.results62 rfl ?_
 have hs := St.start hO
 refine Wp_seq ?_
 refine Wp_region ?_
 refine Rg_op rfl (op_assign (v := (Value.bool false)) rfl ?_)
 refine Rg_nil ?_
 refine Wp_seq ?_
 refine Wp_region ?_
 refine Rg_op rfl (op_move (v := (Value.slice a_a a.length c_a)) rfl ?_)
 refine Rg_op rfl (op_bytesToString ty41 Try.underlying5 Try.underlying9 rfl f_a ?_)
 refine Rg_op rfl (op_move (v := (Value.slice a_b b.length c_b)) rfl ?_)
 refine Rg_op rfl (op_bytesToString ty41 Try.underlying5 Try.underlying9 rfl f_b ?_)
 refine Rg_op rfl (op_eqs (a := a) (b := b) rfl rfl ?_)
 refine Rg_op rfl (op_assign (v := (Value.bool (decide (a = b)))) rfl ?_)
 refine Rg_nil ?_
 refine Wp_ret ?_
 have hz := step_all hs
 replace f_a := f_a.step hz; replace f_b := f_b.step hz
 refine ⟨_, (show Closes [] _ _ from rfl), [(Value.bool (decide (a = b)))], ⟨rfl, trivial⟩, hs.ext, ?_⟩
 exact Vr.eq (a := vB) (x := (decide (a = b))) rfl (Option.some.inj hm)

end Go.Fx



set_option linter.unusedVariables false
set_option linter.unusedSimpArgs false
set_option maxRecDepth 100000
set_option maxHeartbeats 0
namespace Go.Fx
open Go Go.RowKit Go.Proofs
def m71_journal_put_B0 (b : List UInt8) (n : Int) (sf4 : Int → (List UInt8) → Option (List UInt8)) (v_1 : Int) (win_1 : List UInt8) : Option (List UInt8) :=
 bif (decide (v_1 < (b.length : Int))) then
  ck ((0 : Int) ≤ (IntKind.wrap .i64 (8 * v_1))) <|
  ck ((0 : Int) ≤ (IntKind.wrap .i64 ((IntKind.wrap .i64 ((b.length : Int) - 1)) - v_1)) ∧ (IntKind.wrap .i64 ((IntKind.wrap .i64 ((b.length : Int) - 1)) - v_1)) < (b.length : Int) ∧ (IntKind.wrap .i64 ((IntKind.wrap .i64 ((b.length : Int) - 1)) - v_1)) < (win_1.length : Int)) <|
  sf4 (IntKind.wrap .i64 (v_1 + 1)) (win_1.set (IntKind.wrap .i64 ((IntKind.wrap .i64 ((b.length : Int) - 1)) - v_1)).toNat (UInt8.ofNat (IntKind.wrap .u8 (n / 2 ^ min (IntKind.wrap .i64 (8 * v_1)).toNat (IntKind.bits .u64))).toNat))
 else
  some win_1

def m71_journal_put (b : List UInt8) (n : Int) : Option (List UInt8) :=
 loop2 (m71_journal_put_B0 b n) (((b.length : Int) - 0).toNat + 1) 0 b

theorem c71_journal_put {w : World} {O : List Nat} {b : List UInt8} {n : Int} {pre_b post_b : List UInt8} {bl_b cc_b cb_b : Nat} {o_b : Obj} {e_b : TypeId} (hO : ∀ k ∈ O, k < w.heap.size) (hbl : bl_b ∉ O) (hob : w.heap[bl_b]? = some o_b) (f_b : Gs rU8 e_b w (bl_b :: O) (some ⟨bl_b, 0, none⟩) cb_b (pre_b ++ b ++ post_b) (some bl_b) o_b) (r_n : InK .u64 n) {x : List UInt8} (hm : m71_journal_put b n = some x) :
  OkW Try.prog 71 [(Value.slice (some ⟨bl_b, pre_b.length, none⟩) b.length cc_b), (Value.int .u64 n)] w O bl_b rU8 e_b cb_b (pre_b ++ x ++ post_b) := by
 unfold m71_journal_put at hm
 refine Fn_of_Wp (n := 23) (xs := []) Try.func71 rfl Try.ntmps71 Try.results71 rfl ?_
 have hs := St.startW hO hbl hob
 replace f_b : Gs rU8 e_b w (ks [(some bl_b, o_b)] O) (some ⟨bl_b, 0, none⟩) cb_b (pre_b ++ b ++ post_b) (some bl_b) o_b := f_b
 have hlw := inK_lenW f_b
 refine Wp_seq ?_
 refine Wp_region ?_
 refine Rg_op rfl (op_move (v := (Value.slice (some ⟨bl_b, pre_b.length, none⟩) b.length cc_b)) rfl ?_)
 refine Rg_op rfl (op_len Try.underlying41 rfl ?_)
 refine Rg_op rfl (op_move (v := (Value.int .i64 0)) rfl ?_)
 refine Rg_nil ?_
 refine Wp_block ?_
 refine Wp_reset [] [(0, (Value.slice (some ⟨bl_b, pre_b.length, none⟩) b.length cc_b)), (1, (Value.int .u64 n)), (6, (Value.int .i64 (b.length : Int))), (7, (Value.int .i64 0))] rfl ⟨rfl, rfl, rfl, rfl, trivial⟩ fun ξ3 => ?_
 refine Wp_loopM [4, 7, 8, 9, 10, 11, 12, 13, 14, 15, 16, 17, 18, 19, 20, 21, 22] (fun m fr w' => ∃ (v_1 : Int) (win_1 : List UInt8) (o_g2 : Obj) (Ebs : Ents), Ebs = [(some bl_b, o_g2)] ∧ fr [] [(7, (Value.int .i64 v_1))] ∧ Step (ks [(some bl_b, o_b)] O) w (ks Ebs O) w' ∧ St ⟨w, [bl_b], []⟩ O w' Ebs ∧ InK .i64 v_1 ∧ Gs rU8 e_b w' (ks Ebs O) (some ⟨bl_b, 0, none⟩) cb_b (pre_b ++ win_1 ++ post_b) (some bl_b) o_g2 ∧ loop2 (m71_journal_put_B0 b n) m v_1 win_1 = some x) (((b.length : Int) - 0).toNat + 1) ⟨0, b, o_b, _, rfl, ⟨Out.refl _ _, rfl, rfl, trivial⟩, Step.refl _ _, hs, (show InK .i64 0 from by decide), f_b, hm⟩ ?_ ?_
 · rintro _ _ ⟨_, _, _, _, _, _, _, _, _, _, hm⟩; exact loop2_z hm
 ·
  rintro m7 K6 hK6 ρ12 w8 ⟨v_1, win_1, o_g2, Ebs, hEbs, hfr11, hst10, hs9, r_y1, f_g2, hm⟩
  obtain ⟨sf4, hsf5, hm⟩ := loop2_s hm; unfold m71_journal_put_B0 at hm
  subst hEbs; rw [hfr11.eq]; clear hfr11
  replace f_b := f_b.step hst10
  have ch13 := hst10
  refine Wp_seq ?_
  clear f_b
  refine Wp_region ?_
  refine Rg_op rfl (op_lss rfl rfl ?_)
  refine Rg_nil ?_
  refine Wp_seq ?_
  refine Wp_cond rfl (fun hc14 => ?_) (fun hc14 => ?_)
  ·
   replace hm := bif_t hm hc14
   refine Wp_skip ?_
   refine Wp_seq ?_
   refine Wp_block ?_
   refine Wp_seq ?_
   refine Wp_region ?_
   refine Rg_op rfl (op_move (v := (Value.int .i64 v_1)) rfl ?_)
   refine Rg_op rfl (op_assign (v := (Value.int .i64 v_1)) rfl ?_)
   refine Rg_nil ?_
   refine Wp_region ?_
   refine Rg_op rfl (op_move (v := (Value.slice (some ⟨bl_b, pre_b.length, none⟩) b.length cc_b)) rfl ?_)
   refine Rg_op rfl (op_move (v := (Value.slice (some ⟨bl_b, pre_b.length, none⟩) b.length cc_b)) rfl ?_)
   refine Rg_op rfl (op_len Try.underlying41 rfl ?_)
   refine Rg_op rfl (op_subw rfl rfl ?_)
   refine Rg_op rfl (op_move (v := (Value.int .i64 v_1)) rfl ?_)
   refine Rg_op rfl (op_subw rfl rfl ?_)
   refine Rg_op rfl (op_move (v := (Value.int .u64 n)) rfl ?_)
   refine Rg_op rfl (op_move (v := (Value.int .i64 v_1)) rfl ?_)
   refine Rg_op rfl (op_mulw rfl rfl ?_)
   replace hm := ck_some hm; obtain ⟨hc15, hm⟩ := hm
   refine Rg_op rfl (op_shr rfl rfl hc15 ?_)
   refine Rg_op rfl (run1_u8 (e := (IntKind.wrap .u8 (n / 2 ^ min (IntKind.wrap .i64 (8 * v_1)).toNat (IntKind.bits .u64)))) (inK_wrap .u8 _) (fun _ hk => op_conv Try.underlying93 Try.underlying5 rfl hk) ?_)
   replace hm := ck_some hm; obtain ⟨hc16, hm⟩ := hm
   refine Rg_op rfl (op_indexAddrO ty41 ty5 rfl rfl hc16.1 hc16.2.1 ?_)
   refine Rg_op_ (op_storeW (vs := [(Value.int .u8 ((UInt8.ofNat (IntKind.wrap .u8 (n / 2 ^ min (IntKind.wrap .i64 (8 * v_1)).toNat (IntKind.bits .u64))).toNat).toNat : Int))]) (i := 0) (pre := pre_b) (post := post_b) (xs := win_1) (m := (IntKind.wrap .i64 ((IntKind.wrap .i64 ((b.length : Int) - 1)) - v_1))) ty5 rfl hs9 rfl rfl rfl rfl f_g2 ⟨hc16.1, hc16.2.2⟩ mkU8 ?_)
   intro w17 o20 p18 hs19 f21
   replace ch13 := ch13.trans p18; clear p18 hs9
   refine Rg_nil ?_
   refine Wp_region ?_
   refine Rg_op rfl (op_addw rfl rfl ?_)
   refine Rg_op rfl (op_move (v := (Value.int .i64 (IntKind.wrap .i64 (v_1 + 1)))) rfl ?_)
   refine Rg_nil ?_
   exact hK6 _ _ ⟨(IntKind.wrap .i64 (v_1 + 1)), (win_1.set (IntKind.wrap .i64 ((IntKind.wrap .i64 ((b.length : Int) - 1)) - v_1)).toNat (UInt8.ofNat (IntKind.wrap .u8 (n / 2 ^ min (IntKind.wrap .i64 (8 * v_1)).toNat (IntKind.bits .u64))).toNat)), o20, _, rfl, ⟨(by repeat (first | with_reducible exact Out.refl _ _ | refine Out.upd ?_ rfl | refine Out.updL ?_ rfl | refine Out.mix' ?_ rfl | exact Out.refl _ _)), rfl, rfl, trivial⟩, ch13, hs19, (inK_wrap .i64 _), f21, jnE2 hsf5 hm⟩
  ·
   replace hm := bif_f hm hc14
   refine Wp_exit ?_
   exact ⟨_, (show Closes [] _ _ from rfl), [], trivial, hs9.endW.1, _, hs9.endW.2, (Option.some.inj hm) ▸ f_g2⟩

end Go.Fx



set_option linter.unusedVariables false
set_option linter.unusedSimpArgs false
set_option maxRecDepth 100000
set_option maxHeartbeats 0
namespace Go.Fx
open Go Go.RowKit Go.Proofs
def m72_journal_sum_B1 (v_1 : Int) (sf5 : Int → Int → Option Int) (sf25 : Int → Int → Option Int) (n_2 : Int) (v_2 : Int) : Option Int :=
 bif (decide (v_2 < 8)) then
  sf25 (Go.bits .xor .u32 (n_2 / 2 ^ min 1 (IntKind.bits .u32)) (IntKind.wrap .u32 (3988292384 * (Go.bits .and .u32 n_2 1)))) (IntKind.wrap .i64 (v_2 + 1))
 else
  sf5 n_2 (IntKind.wrap .i64 (v_1 + 1))

def m72_journal_sum_B0 (b : List UInt8) (sf5 : Int → Int → Option Int) (n_1 : Int) (v_1 : Int) : Option Int :=
 bif (decide (v_1 < (b.length : Int))) then
  ck ((0 : Int) ≤ v_1 ∧ v_1 < (b.length : Int)) <|
  loop2 (m72_journal_sum_B1 v_1 sf5) (((8 : Int) - 0).toNat + 1) (Go.bits .xor .u32 n_1 ((b.getD v_1.toNat default).toNat : Int)) 0
 else
  some (Go.bits .xor .u32 (if IntKind.signed .u32 then -1 else IntKind.max .u32) n_1)

def m72_journal_sum (b : List UInt8) : Option Int :=
 loop2 (m72_journal_sum_B0 b) (((b.length : Int) - 0).toNat + 1) 4294967295 0

theorem c72_journal_sum {w : World} {O : List Nat} {b : List UInt8} {a_b : Option Addr} {c_b : Nat} (hO : ∀ k ∈ O, k < w.heap.size) (f_b : SlR rU8 w O a_b c_b b) {x : Int} (hm : m72_journal_sum b = some x) :
  Ok Try.prog 72 [(Value.slice a_b b.length c_b)] w O (vI .u32) x := by
 unfold m72_journal_sum at hm
 refine Fn_of_Wp (n := 28) (xs := [.tmp 2]) Try.func72 rfl Try.ntmps72 Try.results72 rfl ?_
 have hs := St.start hO
 refine Wp_seq ?_
 refine Wp_region ?_
 refine Rg_op rfl (op_assign (v := (Value.int .u32 0)) rfl ?_)
 refine Rg_nil ?_
 refine Wp_seq ?_
 refine Wp_region ?_
 refine Rg_op rfl (op_assign (v := (Value.int .u32 4294967295)) rfl ?_)
 refine Rg_nil ?_
 refine Wp_seq ?_
 refine Wp_seq ?_
 refine Wp_region ?_
 refine Rg_op rfl (op_move (v := (Value.slice a_b b.length c_b)) rfl ?_)
 refine Rg_op rfl (op_len Try.underlying41 rfl ?_)
 have rl1 := inK_len f_b
 refine Rg_op rfl (op_move (v := (Value.int .i64 0)) rfl ?_)
 refine Rg_nil ?_
 refine Wp_block ?_
 refine Wp_reset [] [(3, (Value.int .u32 4294967295)), (6, (Value.slice a_b b.length c_b)), (7, (Value.int .i64 (b.length : Int))), (8, (Value.int .i64 0))] rfl ⟨rfl, rfl, rfl, rfl, trivial⟩ fun ξ4 => ?_
 refine Wp_loopM [3, 5, 8, 9, 10, 11, 12, 13, 14, 15, 16, 17, 18, 19, 20, 21, 22, 23, 24, 25] (fun m fr w' => ∃ (n_1 : Int) (v_1 : Int) (Ebs : Ents), Ebs = [] ∧ fr [] [(3, (Value.int .u32 n_1)), (8, (Value.int .i64 v_1))] ∧ Step (ks [] O) w (ks Ebs O) w' ∧ St ⟨w, [], []⟩ O w' Ebs ∧ InK .u32 n_1 ∧ InK .i64 v_1 ∧ loop2 (m72_journal_sum_B0 b) m n_1 v_1 = some x) (((b.length : Int) - 0).toNat + 1) ⟨4294967295, 0, _, rfl, ⟨Out.refl _ _, rfl, rfl, rfl, trivial⟩, Step.refl _ _, hs, (show InK .u32 4294967295 from by decide), (show InK .i64 0 from by decide), hm⟩ ?_ ?_
 · rintro _ _ ⟨_, _, _, _, _, _, _, _, _, hm⟩; exact loop2_z hm
 ·
  rintro m8 K7 hK7 ρ13 w9 ⟨n_1, v_1, Ebs, hEbs, hfr12, hst11, hs10, r_y2, r_y3, hm⟩
  obtain ⟨sf5, hsf6, hm⟩ := loop2_s hm; unfold m72_journal_sum_B0 at hm
  subst hEbs; rw [hfr12.eq]; clear hfr12
  replace f_b := f_b.step hst11
  have ch14 := hst11
  refine Wp_seq ?_
  refine Wp_region ?_
  refine Rg_op rfl (op_lss rfl rfl ?_)
  refine Rg_nil ?_
  refine Wp_seq ?_
  refine Wp_cond rfl (fun hc15 => ?_) (fun hc15 => ?_)
  ·
   replace hm := bif_t hm hc15
   refine Wp_skip ?_
   refine Wp_seq ?_
   refine Wp_block ?_
   refine Wp_seq ?_
   refine Wp_region ?_
   replace hm := ck_some hm; obtain ⟨hc16, hm⟩ := hm
   refine Rg_op rfl (op_indexAddr (q := rU8) ty41 ty5 rfl rfl f_b rfl hc16.1 hc16.2 ?_)
   intro p17 f18
   refine Rg_op rfl (op_loadP ty5 rfl f18 rfl ?_)
   intro v19 h20
   obtain rfl := un_u8 h20
   refine Rg_op rfl (op_assign (v := (Value.int .u8 ((b.getD v_1.toNat default).toNat : Int))) rfl ?_)
   refine Rg_nil ?_
   refine Wp_seq ?_
   clear f18
   refine Wp_region ?_
   refine Rg_op rfl (op_move (v := (Value.int .u32 n_1)) rfl ?_)
   refine Rg_op rfl (op_move (v := (Value.int .u8 ((b.getD v_1.toNat default).toNat : Int))) rfl ?_)
   refine Rg_op rfl (op_conv_u8 Try.underlying5 Try.underlying107 rfl (by decide) ?_)
   refine Rg_op rfl (op_xor rfl rfl ?_)
   refine Rg_op rfl (op_assign (v := (Value.int .u32 (Go.bits .xor .u32 n_1 ((b.getD v_1.toNat default).toNat : Int)))) rfl ?_)
   refine Rg_nil ?_
   refine Wp_seq ?_
   refine Wp_region ?_
   refine Rg_op rfl (op_move (v := (Value.int .i64 0)) rfl ?_)
   refine Rg_nil ?_
   refine Wp_block ?_
   refine Wp_reset2 [3, 5, 8, 9, 10, 11, 12, 13, 14, 15, 16, 17, 18, 19, 20, 21, 22, 23, 24, 25] [] (updL ⟨ξ4, []⟩ [(3, (Value.int .u32 4294967295)), (6, (Value.slice a_b b.length c_b)), (7, (Value.int .i64 (b.length : Int))), (8, (Value.int .i64 0))]) [(3, (Value.int .u32 (Go.bits .xor .u32 n_1 ((b.getD v_1.toNat default).toNat : Int)))), (8, (Value.int .i64 v_1)), (16, (Value.int .i64 0))] (by repeat (first | with_reducible exact Out.refl _ _ | refine Out.upd ?_ rfl | refine Out.updL ?_ rfl | refine Out.mix' ?_ rfl | exact Out.refl _ _)) rfl ⟨rfl, rfl, rfl, trivial⟩ fun ξ24 => ?_
   refine Wp_loopM [3, 16, 17, 18, 19, 20, 21, 22, 23, 24] (fun m fr w' => ∃ (n_2 : Int) (v_2 : Int) (Ebs : Ents), Ebs = [] ∧ fr [] [(3, (Value.int .u32 n_2)), (16, (Value.int .i64 v_2))] ∧ Step (ks [] O) w9 (ks Ebs O) w' ∧ St ⟨w, [], []⟩ O w' Ebs ∧ InK .u32 n_2 ∧ InK .i64 v_2 ∧ loop2 (m72_journal_sum_B1 v_1 sf5) m n_2 v_2 = some x) (((8 : Int) - 0).toNat + 1) ⟨(Go.bits .xor .u32 n_1 ((b.getD v_1.toNat default).toNat : Int)), 0, _, rfl, ⟨Out.refl _ _, rfl, rfl, rfl, trivial⟩, Step.refl _ _, hs10, (inK_bits .xor .u32 _ _), (show InK .i64 0 from by decide), hm⟩ ?_ ?_
   · rintro _ _ ⟨_, _, _, _, _, _, _, _, _, hm⟩; exact loop2_z hm
   ·
    rintro m28 K27 hK27 ρ33 w29 ⟨n_2, v_2, Ebs, hEbs, hfr32, hst31, hs30, r_y22, r_y23, hm⟩
    obtain ⟨sf25, hsf26, hm⟩ := loop2_s hm; unfold m72_journal_sum_B1 at hm
    subst hEbs; rw [hfr32.eq]; clear hfr32
    replace f_b := f_b.step hst31; replace ch14 := ch14.trans hst31
    have ch34 := hst31
    refine Wp_seq ?_
    refine Wp_region ?_
    refine Rg_op rfl (op_lss rfl rfl ?_)
    refine Rg_nil ?_
    refine Wp_seq ?_
    refine Wp_cond rfl (fun hc35 => ?_) (fun hc35 => ?_)
    ·
     replace hm := bif_t hm hc35
     refine Wp_skip ?_
     refine Wp_seq ?_
     refine Wp_block ?_
     refine Wp_region ?_
     refine Rg_op rfl (op_move (v := (Value.int .u32 n_2)) rfl ?_)
     refine Rg_op rfl (op_shr rfl rfl (by decide) ?_)
     refine Rg_op rfl (op_move (v := (Value.int .u32 n_2)) rfl ?_)
     refine Rg_op rfl (op_and rfl rfl ?_)
     refine Rg_op rfl (op_mulw rfl rfl ?_)
     refine Rg_op rfl (op_xor rfl rfl ?_)
     refine Rg_op rfl (op_assign (v := (Value.int .u32 (Go.bits .xor .u32 (n_2 / 2 ^ min 1 (IntKind.bits .u32)) (IntKind.wrap .u32 (3988292384 * (Go.bits .and .u32 n_2 1)))))) rfl ?_)
     refine Rg_nil ?_
     refine Wp_region ?_
     refine Rg_op rfl (op_addw rfl rfl ?_)
     refine Rg_op rfl (op_move (v := (Value.int .i64 (IntKind.wrap .i64 (v_2 + 1)))) rfl ?_)
     refine Rg_nil ?_
     exact hK27 _ _ ⟨(Go.bits .xor .u32 (n_2 / 2 ^ min 1 (IntKind.bits .u32)) (IntKind.wrap .u32 (3988292384 * (Go.bits .and .u32 n_2 1)))), (IntKind.wrap .i64 (v_2 + 1)), _, rfl, ⟨(by repeat (first | with_reducible exact Out.refl _ _ | refine Out.upd ?_ rfl | refine Out.updL ?_ rfl | refine Out.mix' ?_ rfl | exact Out.refl _ _)), rfl, rfl, rfl, trivial⟩, ch34, hs30, (inK_bits .xor .u32 _ _), (inK_wrap .i64 _), jnE2 hsf26 hm⟩
    ·
     replace hm := bif_f hm hc35
     refine Wp_exit ?_
     refine Wp_region ?_
     refine Rg_op rfl (op_addw rfl rfl ?_)
     refine Rg_op rfl (op_move (v := (Value.int .i64 (IntKind.wrap .i64 (v_1 + 1)))) rfl ?_)
     refine Rg_nil ?_
     exact hK7 _ _ ⟨n_2, (IntKind.wrap .i64 (v_1 + 1)), _, rfl, ⟨(by repeat (first | with_reducible exact Out.refl _ _ | refine Out.upd ?_ rfl | refine Out.updL ?_ rfl | refine Out.mix' ?_ rfl | exact Out.refl _ _)), rfl, rfl, rfl, trivial⟩, ch14, hs30, r_y22, (inK_wrap .i64 _), jnE2 hsf6 hm⟩
  ·
   replace hm := bif_f hm hc15
   refine Wp_exit ?_
   refine Wp_seq ?_
   clear f_b
   refine Wp_region ?_
   refine Rg_op rfl (op_move (v := (Value.int .u32 n_1)) rfl ?_)
   refine Rg_op rfl (op_com rfl ?_)
   refine Rg_op rfl (op_assign (v := (Value.int .u32 (Go.bits .xor .u32 (if IntKind.signed .u32 then -1 else IntKind.max .u32) n_1))) rfl ?_)
   refine Rg_nil ?_
   refine Wp_ret ?_
   have hz := step_all hs10
   refine ⟨_, (show Closes [] _ _ from rfl), [(Value.int .u32 (Go.bits .xor .u32 (if IntKind.signed .u32 then -1 else IntKind.max .u32) n_1))], ⟨rfl, trivial⟩, hs10.ext, ?_⟩
   exact Vr.eq (a := (vI .u32)) (x := (Go.bits .xor .u32 (if IntKind.signed .u32 then -1 else IntKind.max .u32) n_1)) ⟨rfl, (inK_bits .xor .u32 _ _)⟩ (Option.some.inj hm)

end Go.Fx



set_option linter.unusedVariables false
set_option linter.unusedSimpArgs false
set_option maxRecDepth 100000
set_option maxHeartbeats 0
namespace Go.Fx
open Go Go.RowKit Go.Proofs
def m63_journal_encode (generation : Int) (number : Int) (kind : UInt8) (b : List UInt8) : Option (List UInt8) :=
 ck ((0 : Int) ≤ 0 ∧ (0 : Int) < 4 ∧ (4 : Int) ≤ ((List.replicate 128 (0 : UInt8)).length : Int)) <|
 (m71_journal_put (((List.replicate 128 (0 : UInt8)).drop 0).take (4 - 0)) generation).bind fun put_1 =>
 ck ((0 : Int) ≤ 8 ∧ (8 : Int) < 10 ∧ (10 : Int) ≤ ((setw (List.replicate 128 (0 : UInt8)) 0 4 put_1).length : Int)) <|
 (m71_journal_put (((setw (List.replicate 128 (0 : UInt8)) 0 4 put_1).drop 8).take (10 - 8)) (IntKind.wrap .u64 number)).bind fun put_2 =>
 ck ((0 : Int) ≤ (10 : Int) ∧ (10 : Int) < ((setw (setw (List.replicate 128 (0 : UInt8)) 0 4 put_1) 8 10 put_2).length : Int)) <|
 ck ((0 : Int) ≤ (11 : Int) ∧ (11 : Int) < (((setw (setw (List.replicate 128 (0 : UInt8)) 0 4 put_1) 8 10 put_2).set 10 kind).length : Int)) <|
 ck ((0 : Int) ≤ 12 ∧ (12 : Int) < 128 ∧ (128 : Int) ≤ ((((setw (setw (List.replicate 128 (0 : UInt8)) 0 4 put_1) 8 10 put_2).set 10 kind).set 11 (UInt8.ofNat (IntKind.wrap .u8 (b.length : Int)).toNat)).length : Int)) <|
 ck (12 < 128) <|
 ck ((0 : Int) ≤ 124 ∧ (124 : Int) < 128 ∧ (128 : Int) ≤ (((((setw (setw (List.replicate 128 (0 : UInt8)) 0 4 put_1) 8 10 put_2).set 10 kind).set 11 (UInt8.ofNat (IntKind.wrap .u8 (b.length : Int)).toNat)).take 12 ++ (b.take (128 - 12) ++ ((((setw (setw (List.replicate 128 (0 : UInt8)) 0 4 put_1) 8 10 put_2).set 10 kind).set 11 (UInt8.ofNat (IntKind.wrap .u8 (b.length : Int)).toNat)).drop 12).drop (min b.length (128 - 12)))).length : Int)) <|
 (m71_journal_put ((((((setw (setw (List.replicate 128 (0 : UInt8)) 0 4 put_1) 8 10 put_2).set 10 kind).set 11 (UInt8.ofNat (IntKind.wrap .u8 (b.length : Int)).toNat)).take 12 ++ (b.take (128 - 12) ++ ((((setw (setw (List.replicate 128 (0 : UInt8)) 0 4 put_1) 8 10 put_2).set 10 kind).set 11 (UInt8.ofNat (IntKind.wrap .u8 (b.length : Int)).toNat)).drop 12).drop (min b.length (128 - 12)))).drop 124).take (128 - 124)) generation).bind fun put_3 =>
 ck ((0 : Int) ≤ 4 ∧ (4 : Int) < 8 ∧ (8 : Int) ≤ ((setw ((((setw (setw (List.replicate 128 (0 : UInt8)) 0 4 put_1) 8 10 put_2).set 10 kind).set 11 (UInt8.ofNat (IntKind.wrap .u8 (b.length : Int)).toNat)).take 12 ++ (b.take (128 - 12) ++ ((((setw (setw (List.replicate 128 (0 : UInt8)) 0 4 put_1) 8 10 put_2).set 10 kind).set 11 (UInt8.ofNat (IntKind.wrap .u8 (b.length : Int)).toNat)).drop 12).drop (min b.length (128 - 12)))) 124 128 put_3).length : Int)) <|
 ck ((0 : Int) ≤ 8 ∧ (8 : Int) < 124 ∧ (124 : Int) ≤ ((setw ((((setw (setw (List.replicate 128 (0 : UInt8)) 0 4 put_1) 8 10 put_2).set 10 kind).set 11 (UInt8.ofNat (IntKind.wrap .u8 (b.length : Int)).toNat)).take 12 ++ (b.take (128 - 12) ++ ((((setw (setw (List.replicate 128 (0 : UInt8)) 0 4 put_1) 8 10 put_2).set 10 kind).set 11 (UInt8.ofNat (IntKind.wrap .u8 (b.length : Int)).toNat)).drop 12).drop (min b.length (128 - 12)))) 124 128 put_3).length : Int)) <|
 (m72_journal_sum (((setw ((((setw (setw (List.replicate 128 (0 : UInt8)) 0 4 put_1) 8 10 put_2).set 10 kind).set 11 (UInt8.ofNat (IntKind.wrap .u8 (b.length : Int)).toNat)).take 12 ++ (b.take (128 - 12) ++ ((((setw (setw (List.replicate 128 (0 : UInt8)) 0 4 put_1) 8 10 put_2).set 10 kind).set 11 (UInt8.ofNat (IntKind.wrap .u8 (b.length : Int)).toNat)).drop 12).drop (min b.length (128 - 12)))) 124 128 put_3).drop 8).take (124 - 8))).bind fun sum_1 =>
 (m71_journal_put (((setw ((((setw (setw (List.replicate 128 (0 : UInt8)) 0 4 put_1) 8 10 put_2).set 10 kind).set 11 (UInt8.ofNat (IntKind.wrap .u8 (b.length : Int)).toNat)).take 12 ++ (b.take (128 - 12) ++ ((((setw (setw (List.replicate 128 (0 : UInt8)) 0 4 put_1) 8 10 put_2).set 10 kind).set 11 (UInt8.ofNat (IntKind.wrap .u8 (b.length : Int)).toNat)).drop 12).drop (min b.length (128 - 12)))) 124 128 put_3).drop 4).take (8 - 4)) (IntKind.wrap .u64 sum_1)).bind fun put_4 =>
 ck ((setw (setw ((((setw (setw (List.replicate 128 (0 : UInt8)) 0 4 put_1) 8 10 put_2).set 10 kind).set 11 (UInt8.ofNat (IntKind.wrap .u8 (b.length : Int)).toNat)).take 12 ++ (b.take (128 - 12) ++ ((((setw (setw (List.replicate 128 (0 : UInt8)) 0 4 put_1) 8 10 put_2).set 10 kind).set 11 (UInt8.ofNat (IntKind.wrap .u8 (b.length : Int)).toNat)).drop 12).drop (min b.length (128 - 12)))) 124 128 put_3) 4 8 put_4).length = 128) <|
 some (setw (setw ((((setw (setw (List.replicate 128 (0 : UInt8)) 0 4 put_1) 8 10 put_2).set 10 kind).set 11 (UInt8.ofNat (IntKind.wrap .u8 (b.length : Int)).toNat)).take 12 ++ (b.take (128 - 12) ++ ((((setw (setw (List.replicate 128 (0 : UInt8)) 0 4 put_1) 8 10 put_2).set 10 kind).set 11 (UInt8.ofNat (IntKind.wrap .u8 (b.length : Int)).toNat)).drop 12).drop (min b.length (128 - 12)))) 124 128 put_3) 4 8 put_4)

theorem c63_journal_encode {w : World} {O : List Nat} {generation : Int} {number : Int} {kind : UInt8} {b : List UInt8} {a_b : Option Addr} {c_b : Nat} (hO : ∀ k ∈ O, k < w.heap.size) (r_generation : InK .u64 generation) (r_number : InK .i64 number) (f_b : SlR rU8 w O a_b c_b b) {x : (List UInt8)} (hm : m63_journal_encode generation number kind b = some x) :
  Ok Try.prog 63 [(Value.int .u64 generation), (Value.int .i64 number), (Value.int .u8 (kind.toNat : Int)), (Value.slice a_b b.length c_b)] w O (vC (rSl rU8)) x := by
 unfold m63_journal_encode at hm
 refine Fn_of_Wp (n := 35) (xs := [.tmp 8]) Try.func63 rfl Try.ntmps63 Try.results63 rfl ?_
 have hs := St.start hO
 refine Wp_seq ?_
 refine Wp_region ?_
 refine Rg_op rfl (op_assign (v := (Value.slice none 0 0)) rfl ?_)
 refine Rg_nil ?_
 refine Wp_seq ?_
 refine Wp_region ?_
 refine Rg_op rfl (op_alloc ty105 hs ?_)
 intro b1 w2 _ p3 hs4
 replace f_b := f_b.step p3; clear p3
 have f5 := Gs.of_cells (p := rU8) (e := 105) (bl := b1) (c := 128) (w := w2) (O := ks [(some b1, Obj.cells (List.replicate 128 (Value.int .u8 0)).toArray 105)] O) (Els.rep (p := rU8) (mk_u8 (show InK .u8 0 from by decide)) 128) (List.length_replicate ..) (le_lit rfl)
 refine Rg_nil ?_
 refine Wp_seq ?_
 refine Wp_region ?_
 replace hm := ck_some hm; obtain ⟨hc7, hm⟩ := hm
 refine Rg_op rfl (op_sliceA (l := 0) (h := 4) (m := 128) ty105 ty5 rfl rfl (bndI rfl (by omega)) rfl (by decide) (by omega) (by omega) (Nat.le_refl _) ?_)
 refine Rg_op rfl (op_move (v := (Value.int .u64 generation)) rfl ?_)
 replace hm := bd hm; obtain ⟨put_1, hv8, hm⟩ := hm
 obtain ⟨ho9, hb10, hh11, hg12⟩ := St.lendW (i := 0) hs4 rfl f5
 have wv13 := winval (bl := b1) (l := 0) (h := 4) (c := 128) (xs := (List.replicate 128 (0 : UInt8))) (by omega) (by omega) f5.le.1
 refine Rg_op rfl (op_callW (i := 0) Try.call71 hs4 rfl (c71_journal_put (b := (((List.replicate 128 (0 : UInt8)).drop 0).take (4 - 0))) (n := generation) (pre_b := (List.replicate 128 (0 : UInt8)).take 0) (post_b := (List.replicate 128 (0 : UInt8)).drop 4) ho9 hb10 hh11 (winG hg12 (by omega) (by omega)) r_generation hv8) (cons2 (rfl.trans wv13) (cons2 rfl rfl)) ?_)
 intro _ w14 o15 p16 hs17 f18; clear ho9 hb10 hh11 hg12 wv13
 replace f18 : Gs rU8 _ _ (ks [(some b1, o15)] O) _ _ (setw (List.replicate 128 (0 : UInt8)) 0 4 put_1) _ _ := f18
 replace f_b := f_b.step p16; clear p16 hs4
 refine Rg_nil ?_
 refine Wp_seq ?_
 refine Wp_region ?_
 replace hm := ck_some hm; obtain ⟨hc19, hm⟩ := hm
 refine Rg_op rfl (op_sliceA (l := 8) (h := 10) (m := 128) ty105 ty5 rfl (bndI rfl (by omega)) (bndI rfl (by omega)) rfl (by decide) (by omega) (by omega) (Nat.le_refl _) ?_)
 refine Rg_op rfl (op_move (v := (Value.int .i64 number)) rfl ?_)
 refine Rg_op rfl (op_conv Try.underlying3 Try.underlying93 rfl ?_)
 replace hm := bd hm; obtain ⟨put_2, hv20, hm⟩ := hm
 obtain ⟨ho21, hb22, hh23, hg24⟩ := St.lendW (i := 0) hs17 rfl f18
 have wv25 := winval (bl := b1) (l := 8) (h := 10) (c := 128) (xs := (setw (List.replicate 128 (0 : UInt8)) 0 4 put_1)) (by omega) (by omega) f18.le.1
 refine Rg_op rfl (op_callW (i := 0) Try.call71 hs17 rfl (c71_journal_put (b := (((setw (List.replicate 128 (0 : UInt8)) 0 4 put_1).drop 8).take (10 - 8))) (n := (IntKind.wrap .u64 number)) (pre_b := (setw (List.replicate 128 (0 : UInt8)) 0 4 put_1).take 8) (post_b := (setw (List.replicate 128 (0 : UInt8)) 0 4 put_1).drop 10) ho21 hb22 hh23 (winG hg24 (by omega) (by omega)) (inK_wrap .u64 _) hv20) (cons2 (rfl.trans wv25) (cons2 rfl rfl)) ?_)
 intro _ w26 o27 p28 hs29 f30; clear ho21 hb22 hh23 hg24 wv25
 replace f30 : Gs rU8 _ _ (ks [(some b1, o27)] O) _ _ (setw (setw (List.replicate 128 (0 : UInt8)) 0 4 put_1) 8 10 put_2) _ _ := f30
 replace f_b := f_b.step p28; clear p28 hs17
 refine Rg_nil ?_
 refine Wp_seq ?_
 refine Wp_region ?_
 refine Rg_op rfl (op_move (v := (Value.int .u8 (kind.toNat : Int))) rfl ?_)
 refine Rg_op rfl (op_move (v := (Value.slice a_b b.length c_b)) rfl ?_)
 refine Rg_op rfl (op_len Try.underlying41 rfl ?_)
 have rl31 := inK_len f_b
 refine Rg_op rfl (run1_u8 (e := (IntKind.wrap .u8 (b.length : Int))) (inK_wrap .u8 _) (fun _ hk => op_conv Try.underlying3 Try.underlying5 rfl hk) ?_)
 replace hm := ck_some hm; obtain ⟨hc32, hm⟩ := hm
 refine Rg_op rfl (op_indexAddrAG ty105 ty5 rfl rfl f30 hc32 ?_)
 refine Rg_op_ (op_storeG (vs := [(Value.int .u8 (kind.toNat : Int))]) (i := 0) (m := 10) ty5 rfl hs29 rfl rfl rfl rfl f30 hc32 mkU8 ?_)
 intro w33 o36 p34 hs35 f37
 replace f37 : Gs _ _ _ _ _ _ ((setw (setw (List.replicate 128 (0 : UInt8)) 0 4 put_1) 8 10 put_2).set 10 kind) _ _ := f37
 replace f_b := f_b.step p34; clear p34 hs29
 replace hm := ck_some hm; obtain ⟨hc38, hm⟩ := hm
 refine Rg_op rfl (op_indexAddrAG ty105 ty5 rfl rfl f37 hc38 ?_)
 refine Rg_op_ (op_storeG (vs := [(Value.int .u8 ((UInt8.ofNat (IntKind.wrap .u8 (b.length : Int)).toNat).toNat : Int))]) (i := 0) (m := 11) ty5 rfl hs35 rfl rfl rfl rfl f37 hc38 mkU8 ?_)
 intro w39 o42 p40 hs41 f43
 replace f43 : Gs _ _ _ _ _ _ (((setw (setw (List.replicate 128 (0 : UInt8)) 0 4 put_1) 8 10 put_2).set 10 kind).set 11 (UInt8.ofNat (IntKind.wrap .u8 (b.length : Int)).toNat)) _ _ := f43
 replace f_b := f_b.step p40; clear p40 hs35
 refine Rg_nil ?_
 refine Wp_seq ?_
 refine Wp_region ?_
 replace hm := ck_some hm; obtain ⟨hc44, hm⟩ := hm
 refine Rg_op rfl (op_sliceA (l := 12) (h := 128) (m := 128) ty105 ty5 rfl (bndI rfl (by omega)) rfl rfl (by decide) (by omega) (by omega) (Nat.le_refl _) ?_)
 refine Rg_op rfl (op_move (v := (Value.slice a_b b.length c_b)) rfl ?_)
 replace hm := ck_some hm; obtain ⟨hc45, hm⟩ := hm
 obtain ⟨ns46, he47, hr48⟩ := f_b.src
 refine Rg_op rfl (op_copyW (p := rU8) (xs := (((setw (setw (List.replicate 128 (0 : UInt8)) 0 4 put_1) 8 10 put_2).set 10 kind).set 11 (UInt8.ofNat (IntKind.wrap .u8 (b.length : Int)).toNat))) (i := 0) (l := 12) (h := 128) ty41 ty5 rfl hs41 rfl rfl f43 rfl he47 hr48 hc45 (by omega) ?_)
 intro o52 w49 p50 hs51 f53
 replace f_b := f_b.step p50; clear p50 hs41
 have r54 : InK .i64 ((min b.length (128 - 12) : Nat) : Int) := inK_of (by have := f53.le; have hm : maxLen = 9223372036854775807 := rfl; simp at this ⊢; omega)
 refine Rg_nil ?_
 refine Wp_seq ?_
 clear f_b
 refine Wp_region ?_
 replace hm := ck_some hm; obtain ⟨hc55, hm⟩ := hm
 refine Rg_op rfl (op_sliceA (l := 124) (h := 128) (m := 128) ty105 ty5 rfl (bndI rfl (by omega)) rfl rfl (by decide) (by omega) (by omega) (Nat.le_refl _) ?_)
 refine Rg_op rfl (op_move (v := (Value.int .u64 generation)) rfl ?_)
 replace hm := bd hm; obtain ⟨put_3, hv56, hm⟩ := hm
 obtain ⟨ho57, hb58, hh59, hg60⟩ := St.lendW (i := 0) hs51 rfl f53
 have wv61 := winval (bl := b1) (l := 124) (h := 128) (c := 128) (xs := ((((setw (setw (List.replicate 128 (0 : UInt8)) 0 4 put_1) 8 10 put_2).set 10 kind).set 11 (UInt8.ofNat (IntKind.wrap .u8 (b.length : Int)).toNat)).take 12 ++ (b.take (128 - 12) ++ ((((setw (setw (List.replicate 128 (0 : UInt8)) 0 4 put_1) 8 10 put_2).set 10 kind).set 11 (UInt8.ofNat (IntKind.wrap .u8 (b.length : Int)).toNat)).drop 12).drop (min b.length (128 - 12))))) (by omega) (by omega) f53.le.1
 refine Rg_op rfl (op_callW (i := 0) Try.call71 hs51 rfl (c71_journal_put (b := ((((((setw (setw (List.replicate 128 (0 : UInt8)) 0 4 put_1) 8 10 put_2).set 10 kind).set 11 (UInt8.ofNat (IntKind.wrap .u8 (b.length : Int)).toNat)).take 12 ++ (b.take (128 - 12) ++ ((((setw (setw (List.replicate 128 (0 : UInt8)) 0 4 put_1) 8 10 put_2).set 10 kind).set 11 (UInt8.ofNat (IntKind.wrap .u8 (b.length : Int)).toNat)).drop 12).drop (min b.length (128 - 12)))).drop 124).take (128 - 124))) (n := generation) (pre_b := ((((setw (setw (List.replicate 128 (0 : UInt8)) 0 4 put_1) 8 10 put_2).set 10 kind).set 11 (UInt8.ofNat (IntKind.wrap .u8 (b.length : Int)).toNat)).take 12 ++ (b.take (128 - 12) ++ ((((setw (setw (List.replicate 128 (0 : UInt8)) 0 4 put_1) 8 10 put_2).set 10 kind).set 11 (UInt8.ofNat (IntKind.wrap .u8 (b.length : Int)).toNat)).drop 12).drop (min b.length (128 - 12)))).take 124) (post_b := ((((setw (setw (List.replicate 128 (0 : UInt8)) 0 4 put_1) 8 10 put_2).set 10 kind).set 11 (UInt8.ofNat (IntKind.wrap .u8 (b.length : Int)).toNat)).take 12 ++ (b.take (128 - 12) ++ ((((setw (setw (List.replicate 128 (0 : UInt8)) 0 4 put_1) 8 10 put_2).set 10 kind).set 11 (UInt8.ofNat (IntKind.wrap .u8 (b.length : Int)).toNat)).drop 12).drop (min b.length (128 - 12)))).drop 128) ho57 hb58 hh59 (winG hg60 (by omega) (by omega)) r_generation hv56) (cons2 (rfl.trans wv61) (cons2 rfl rfl)) ?_)
 intro _ w62 o63 p64 hs65 f66; clear ho57 hb58 hh59 hg60 wv61
 replace f66 : Gs rU8 _ _ (ks [(some b1, o63)] O) _ _ (setw ((((setw (setw (List.replicate 128 (0 : UInt8)) 0 4 put_1) 8 10 put_2).set 10 kind).set 11 (UInt8.ofNat (IntKind.wrap .u8 (b.length : Int)).toNat)).take 12 ++ (b.take (128 - 12) ++ ((((setw (setw (List.replicate 128 (0 : UInt8)) 0 4 put_1) 8 10 put_2).set 10 kind).set 11 (UInt8.ofNat (IntKind.wrap .u8 (b.length : Int)).toNat)).drop 12).drop (min b.length (128 - 12)))) 124 128 put_3) _ _ := f66
 clear p64 hs51
 refine Rg_nil ?_
 refine Wp_seq ?_
 refine Wp_reset [] [(9, (Value.pointer (some ⟨b1, 0, none⟩)))] rfl ⟨rfl, trivial⟩ fun ξ67 => ?_
 refine Wp_drawR (g0 := []) (m := 4) (fl := []) (TS_inv hs65) rfl (.inl rfl) rfl (by decide +kernel) ?_  -- 7
 replace hm := ck_some hm; obtain ⟨hc71, hm⟩ := hm
 refine Dw_eq (Value.slice (some ⟨b1, if 128 = 4 then 0 else 0 + 4 * 1, none⟩) (8 - 4) (128 - 4)) (fun ρ68 w69 g hle hi ht => ?_) ?_
 ·
  obtain ⟨-, hst, -⟩ := hle
  refine StepOp_plain (op_sliceA (l := 4) (h := 8) (m := 128) ty105 ty5 (ht 9 rfl) (bndI rfl (by omega)) (bndI rfl (by omega)) rfl (by decide) (by omega) (by omega) (Nat.le_refl _) ?_)
  exact Goes.same hi rfl
 replace hm := ck_some hm; obtain ⟨hc75, hm⟩ := hm
 refine Dw_eq (Value.slice (some ⟨b1, if 128 = 8 then 0 else 0 + 8 * 1, none⟩) (124 - 8) (128 - 8)) (fun ρ72 w73 g hle hi ht => ?_) ?_
 ·
  obtain ⟨-, hst, -⟩ := hle
  refine StepOp_plain (op_sliceA (l := 8) (h := 124) (m := 128) ty105 ty5 (ht 9 rfl) (bndI rfl (by omega)) (bndI rfl (by omega)) rfl (by decide) (by omega) (by omega) (Nat.le_refl _) ?_)
  exact Goes.same hi rfl
 replace hm := bd hm; obtain ⟨sum_1, hv79, hm⟩ := hm
 refine Dw_op (VD O [(some b1, o63)] (vI .u32) sum_1) (VD.stab _ _) (fun ρ76 w77 g hle hi ht => ?_) ?_
 ·
  obtain ⟨-, hst, -⟩ := hle
  replace f66 := f66.step hst
  have hsn := (Step.nx hi).1
  obtain ⟨hs80, p81, f82⟩ := Gs.publish (i := 0) hsn rfl (f66.step (Step.nx hi).2)
  have f83 := SlR.win (l := 8) (h := 124) rfl f82 (by omega) (by omega)
  have ln85 : 124 - 8 = (((setw ((((setw (setw (List.replicate 128 (0 : UInt8)) 0 4 put_1) 8 10 put_2).set 10 kind).set 11 (UInt8.ofNat (IntKind.wrap .u8 (b.length : Int)).toNat)).take 12 ++ (b.take (128 - 12) ++ ((((setw (setw (List.replicate 128 (0 : UInt8)) 0 4 put_1) 8 10 put_2).set 10 kind).set 11 (UInt8.ofNat (IntKind.wrap .u8 (b.length : Int)).toNat)).drop 12).drop (min b.length (128 - 12)))) 124 128 put_3).drop 8).take (124 - 8)).length := by simp only [List.length_take, List.length_drop]; omega
  refine StepOp_plain (op_call Try.call72 (c72_journal_sum (b := (((setw ((((setw (setw (List.replicate 128 (0 : UInt8)) 0 4 put_1) 8 10 put_2).set 10 kind).set 11 (UInt8.ofNat (IntKind.wrap .u8 (b.length : Int)).toNat)).take 12 ++ (b.take (128 - 12) ++ ((((setw (setw (List.replicate 128 (0 : UInt8)) 0 4 put_1) 8 10 put_2).set 10 kind).set 11 (UInt8.ofNat (IntKind.wrap .u8 (b.length : Int)).toNat)).drop 12).drop (min b.length (128 - 12)))) 124 128 put_3).drop 8).take (124 - 8))) hs80.ltw f83 hv79) (cons2 (eqlen (ht 30 rfl) ln85) rfl) ?_)
  rintro v86 w87 ⟨hx88, h89⟩; exact Goes.call hi hx88 (show Vr.vd (vI .u32) _ _ _ _ from h89)
 refine Dw_eq (Value.int .u64 (IntKind.wrap .u64 sum_1)) (fun ρ90 w91 g hle hi ht => ?_) ?_
 ·
  obtain ⟨-, hst, -⟩ := hle
  have h93 : Vr.vd (vI .u32) _ _ _ _ := ht 31 rfl
  obtain ⟨q94, r_y95⟩ := h93
  refine StepOp_plain (op_conv Try.underlying107 Try.underlying93 q94 ?_)
  exact Goes.same hi rfl
 refine Dw_nil fun w100 g101 hl102 hi103 => ?_
 obtain ⟨-, hst104, -⟩ := hl102
 obtain ⟨hs106, p105⟩ := Step.nx hi103
 rintro _ rfl
 rintro v107 h108
 replace h108 : Vr.vd (vI .u32) _ _ _ _ := h108
 obtain ⟨rfl, r_y109⟩ := h108
 rintro _ rfl
 rintro _ rfl
 have p110 : Step (ks [(some b1, o63)] O) w62 (ks [(some b1, o63)] O) w100 := hst104.trans p105
 replace f66 := f66.step p110; clear p110 hs65
 replace hm := bd hm; obtain ⟨put_4, hv111, hm⟩ := hm
 obtain ⟨ho112, hb113, hh114, hg115⟩ := St.lendW (i := 0) hs106 rfl f66
 have wv116 := winval (bl := b1) (l := 4) (h := 8) (c := 128) (xs := (setw ((((setw (setw (List.replicate 128 (0 : UInt8)) 0 4 put_1) 8 10 put_2).set 10 kind).set 11 (UInt8.ofNat (IntKind.wrap .u8 (b.length : Int)).toNat)).take 12 ++ (b.take (128 - 12) ++ ((((setw (setw (List.replicate 128 (0 : UInt8)) 0 4 put_1) 8 10 put_2).set 10 kind).set 11 (UInt8.ofNat (IntKind.wrap .u8 (b.length : Int)).toNat)).drop 12).drop (min b.length (128 - 12)))) 124 128 put_3)) (by omega) (by omega) f66.le.1
 refine Rg_op rfl (op_callW (i := 0) Try.call71 hs106 rfl (c71_journal_put (b := (((setw ((((setw (setw (List.replicate 128 (0 : UInt8)) 0 4 put_1) 8 10 put_2).set 10 kind).set 11 (UInt8.ofNat (IntKind.wrap .u8 (b.length : Int)).toNat)).take 12 ++ (b.take (128 - 12) ++ ((((setw (setw (List.replicate 128 (0 : UInt8)) 0 4 put_1) 8 10 put_2).set 10 kind).set 11 (UInt8.ofNat (IntKind.wrap .u8 (b.length : Int)).toNat)).drop 12).drop (min b.length (128 - 12)))) 124 128 put_3).drop 4).take (8 - 4))) (n := (IntKind.wrap .u64 sum_1)) (pre_b := (setw ((((setw (setw (List.replicate 128 (0 : UInt8)) 0 4 put_1) 8 10 put_2).set 10 kind).set 11 (UInt8.ofNat (IntKind.wrap .u8 (b.length : Int)).toNat)).take 12 ++ (b.take (128 - 12) ++ ((((setw (setw (List.replicate 128 (0 : UInt8)) 0 4 put_1) 8 10 put_2).set 10 kind).set 11 (UInt8.ofNat (IntKind.wrap .u8 (b.length : Int)).toNat)).drop 12).drop (min b.length (128 - 12)))) 124 128 put_3).take 4) (post_b := (setw ((((setw (setw (List.replicate 128 (0 : UInt8)) 0 4 put_1) 8 10 put_2).set 10 kind).set 11 (UInt8.ofNat (IntKind.wrap .u8 (b.length : Int)).toNat)).take 12 ++ (b.take (128 - 12) ++ ((((setw (setw (List.replicate 128 (0 : UInt8)) 0 4 put_1) 8 10 put_2).set 10 kind).set 11 (UInt8.ofNat (IntKind.wrap .u8 (b.length : Int)).toNat)).drop 12).drop (min b.length (128 - 12)))) 124 128 put_3).drop 8) ho112 hb113 hh114 (winG hg115 (by omega) (by omega)) (inK_wrap .u64 _) hv111) (cons2 (rfl.trans wv116) (cons2 rfl rfl)) ?_)
 intro _ w117 o118 p119 hs120 f121; clear ho112 hb113 hh114 hg115 wv116
 replace f121 : Gs rU8 _ _ (ks [(some b1, o118)] O) _ _ (setw (setw ((((setw (setw (List.replicate 128 (0 : UInt8)) 0 4 put_1) 8 10 put_2).set 10 kind).set 11 (UInt8.ofNat (IntKind.wrap .u8 (b.length : Int)).toNat)).take 12 ++ (b.take (128 - 12) ++ ((((setw (setw (List.replicate 128 (0 : UInt8)) 0 4 put_1) 8 10 put_2).set 10 kind).set 11 (UInt8.ofNat (IntKind.wrap .u8 (b.length : Int)).toNat)).drop 12).drop (min b.length (128 - 12)))) 124 128 put_3) 4 8 put_4) _ _ := f121
 clear p119 hs106
 refine Rg_nil ?_
 refine Wp_seq ?_
 refine Wp_region ?_
 replace hm := ck_some hm; obtain ⟨hc122, hm⟩ := hm
 refine Rg_op rfl (op_sliceA (l := 0) (h := 128) (m := 128) ty105 ty5 rfl rfl rfl rfl (by decide) (by omega) (by omega) (Nat.le_refl _) ?_)
 refine Rg_op rfl (op_assign (v := (Value.slice (some ⟨b1, 0, none⟩) (setw (setw ((((setw (setw (List.replicate 128 (0 : UInt8)) 0 4 put_1) 8 10 put_2).set 10 kind).set 11 (UInt8.ofNat (IntKind.wrap .u8 (b.length : Int)).toNat)).take 12 ++ (b.take (128 - 12) ++ ((((setw (setw (List.replicate 128 (0 : UInt8)) 0 4 put_1) 8 10 put_2).set 10 kind).set 11 (UInt8.ofNat (IntKind.wrap .u8 (b.length : Int)).toNat)).drop 12).drop (min b.length (128 - 12)))) 124 128 put_3) 4 8 put_4).length 128)) (eqlen rfl (hc122).symm) ?_)
 refine Rg_nil ?_
 refine Wp_ret ?_
 obtain ⟨hs124, p125, f123⟩ := Gs.publish (i := 0) hs120 rfl f121
 clear p125 hs120
 have hz := step_all hs124
 replace f123 := f123.step hz
 refine ⟨_, (show Closes [] _ _ from rfl), [(Value.slice (some ⟨b1, 0, none⟩) (setw (setw ((((setw (setw (List.replicate 128 (0 : UInt8)) 0 4 put_1) 8 10 put_2).set 10 kind).set 11 (UInt8.ofNat (IntKind.wrap .u8 (b.length : Int)).toNat)).take 12 ++ (b.take (128 - 12) ++ ((((setw (setw (List.replicate 128 (0 : UInt8)) 0 4 put_1) 8 10 put_2).set 10 kind).set 11 (UInt8.ofNat (IntKind.wrap .u8 (b.length : Int)).toNat)).drop 12).drop (min b.length (128 - 12)))) 124 128 put_3) 4 8 put_4).length 128)], ⟨rfl, trivial⟩, hs124.ext, ?_⟩
 exact Vr.eq (a := (vC (rSl rU8))) (x := (setw (setw ((((setw (setw (List.replicate 128 (0 : UInt8)) 0 4 put_1) 8 10 put_2).set 10 kind).set 11 (UInt8.ofNat (IntKind.wrap .u8 (b.length : Int)).toNat)).take 12 ++ (b.take (128 - 12) ++ ((((setw (setw (List.replicate 128 (0 : UInt8)) 0 4 put_1) 8 10 put_2).set 10 kind).set 11 (UInt8.ofNat (IntKind.wrap .u8 (b.length : Int)).toNat)).drop 12).drop (min b.length (128 - 12)))) 124 128 put_3) 4 8 put_4)) (mkC (mk_sl f123)) (Option.some.inj hm)

end Go.Fx



set_option linter.unusedVariables false
set_option linter.unusedSimpArgs false
set_option maxRecDepth 100000
set_option maxHeartbeats 0
namespace Go.Fx
open Go Go.RowKit Go.Proofs
def m70_journal_good (s : List UInt8) (number : Int) : Option Bool :=
 ck ((0 : Int) ≤ 11 ∧ 11 < (s.length : Int)) <|
 jn (fun (v_1 : Bool) =>
  bif v_1 then
   some false
  else
   ck ((0 : Int) ≤ (4 : Int) ∧ (4 : Int) ≤ (s.length : Int)) <|
   (m60_journal_get ((s.drop 0).take (4 - 0))).bind fun get_1 =>
   bif (decide (0 < get_1)) then
    ck ((0 : Int) ≤ 10 ∧ 10 < (s.length : Int)) <|
    ck ((0 : Int) ≤ 12 ∧ (12 : Int) ≤ (IntKind.wrap .i64 (12 + ((s.getD 11 default).toNat : Int))) ∧ (IntKind.wrap .i64 (12 + ((s.getD 11 default).toNat : Int))) ≤ (s.length : Int)) <|
    (m63_journal_encode get_1 number (s.getD 10 default) ((s.drop 12).take ((IntKind.wrap .i64 (12 + ((s.getD 11 default).toNat : Int))).toNat - 12))).bind fun encode_1 =>
    (m62_bytes_Equal s encode_1).bind fun equal_1 =>
    some equal_1
   else
    some false)
 (fun k9 =>
  bif (decide (112 < ((s.getD 11 default).toNat : Int))) then
   k9 true
  else
   ck ((0 : Int) ≤ 10 ∧ 10 < (s.length : Int)) <|
   bif (decide (3 < ((s.getD 10 default).toNat : Int))) then
    k9 true
   else
    ck ((0 : Int) ≤ 10 ∧ 10 < (s.length : Int)) <|
    bif (decide (((UInt8.ofNat (Go.bits .and .u8 ((s.getD 10 default).toNat : Int) 2).toNat).toNat : Int) = 0)) then
     bif (decide (((s.getD 11 default).toNat : Int) < 112)) then
      k9 true
     else
      ck ((0 : Int) ≤ 10 ∧ 10 < (s.length : Int)) <|
      bif (decide (((UInt8.ofNat (Go.bits .and .u8 ((s.getD 10 default).toNat : Int) 1).toNat).toNat : Int) = 0)) then
       k9 (decide (((s.getD 11 default).toNat : Int) = 0))
      else
       k9 false
    else
     ck ((0 : Int) ≤ 10 ∧ 10 < (s.length : Int)) <|
     bif (decide (((UInt8.ofNat (Go.bits .and .u8 ((s.getD 10 default).toNat : Int) 1).toNat).toNat : Int) = 0)) then
      k9 (decide (((s.getD 11 default).toNat : Int) = 0))
     else
      k9 false)

theorem c70_journal_good {w : World} {O : List Nat} {s : List UInt8} {number : Int} {a_s : Option Addr} {c_s : Nat} (hO : ∀ k ∈ O, k < w.heap.size) (f_s : SlR rU8 w O a_s c_s s) (r_number : InK .i64 number) {x : Bool} (hm : m70_journal_good s number = some x) :
  Ok Try.prog 70 [(Value.slice a_s s.length c_s), (Value.int .i64 number)] w O vB x := by
 unfold m70_journal_good at hm
 refine Fn_of_Wp (n := 60) (xs := [.tmp 4]) Try.func70 rfl Try.ntmps70 Try.results70 rfl ?_
 have hs := St.start hO
 refine Wp_seq ?_
 refine Wp_region ?_
 refine Rg_op rfl (op_assign (v := (Value.bool false)) rfl ?_)
 refine Rg_nil ?_
 refine Wp_seq ?_
 refine Wp_region ?_
 refine Rg_op rfl (op_move (v := (Value.slice a_s s.length c_s)) rfl ?_)
 replace hm := ck_some hm; obtain ⟨hc1, hm⟩ := hm
 refine Rg_op rfl (op_indexAddr (q := rU8) ty41 ty5 rfl rfl f_s rfl hc1.1 hc1.2 ?_)
 intro p2 f3
 replace f3 : PtR rU8 _ _ p2 (s.getD 11 default) := f3
 refine Rg_op rfl (op_loadP ty5 rfl f3 rfl ?_)
 intro v4 h5
 obtain rfl := un_u8 h5
 refine Rg_op rfl (op_conv_u8 Try.underlying5 Try.underlying3 rfl (by decide) ?_)
 refine Rg_op rfl (op_assign (v := (Value.int .i64 ((s.getD 11 default).toNat : Int))) rfl ?_)
 refine Rg_nil ?_
 refine Wp_seq ?_
 refine Wp_reset [] [(0, (Value.slice a_s s.length c_s)), (1, (Value.int .i64 number)), (5, (Value.int .i64 ((s.getD 11 default).toNat : Int)))] rfl ⟨rfl, rfl, rfl, trivial⟩ fun ξ7 => ?_
 replace hm := jn_elim hm; obtain ⟨k9, hk10, hm⟩ := hm
 refine Wp_seqJ [11, 12, 13, 14, 15, 16, 17, 18, 19, 20, 21, 22, 23, 24, 25, 26, 27, 28, 29, 30, 31, 32, 33, 34, 35, 36, 37, 38, 39, 40] (fun fr w' => ∃ (v_1 : Bool) (Ebs : Ents), Ebs = [] ∧ fr [] [(40, (Value.bool v_1))] ∧ Step (ks [] O) w (ks Ebs O) w' ∧ St ⟨w, [], []⟩ O w' Ebs ∧ k9 v_1 = some x) ?_ ?_
 ·
  rintro ρ16 w12 ⟨v_1, Ebs, hEbs, hfr15, hst14, hs13, hm⟩
  replace hm := jnE1 hk10 hm
  subst hEbs; rw [hfr15.eq]; clear hfr15
  replace f_s := f_s.step hst14; replace f3 := f3.step hst14; clear hst14
  refine Wp_cond rfl (fun hc17 => ?_) (fun hc17 => ?_)
  ·
   replace hm := bif_t hm hc17
   refine Wp_seq ?_
   clear f_s f3
   refine Wp_region ?_
   refine Rg_op rfl (op_assign (v := (Value.bool false)) rfl ?_)
   refine Rg_nil ?_
   refine Wp_ret ?_
   have hz := step_all hs13
   refine ⟨_, (show Closes [] _ _ from rfl), [(Value.bool false)], ⟨rfl, trivial⟩, hs13.ext, ?_⟩
   exact Vr.eq (a := vB) (x := false) rfl (Option.some.inj hm)
  ·
   replace hm := bif_f hm hc17
   refine Wp_skip ?_
   refine Wp_seq ?_
   clear f3
   refine Wp_region ?_
   refine Rg_op rfl (op_move (v := (Value.slice a_s s.length c_s)) rfl ?_)
   replace hm := ck_some hm; obtain ⟨hc18, hm⟩ := hm
   refine Rg_op rfl (op_slice (q := rU8) (l := 0) (h := 4) (m := c_s) ty41 ty5 rfl f_s rfl rfl (bndI rfl (by omega)) rfl (by decide) (by omega) (by omega) (by have h_ : s.length ≤ c_s := f_s.le; omega) (by have h_ : s.length ≤ c_s := f_s.le; omega) ?_)
   intro a19 f20
   replace hm := bd hm; obtain ⟨get_1, hv21, hm⟩ := hm
   refine Rg_op rfl (op_call Try.call60 (c60_journal_get (b := ((s.drop 0).take (4 - 0))) hs13.ltw f20 hv21) rfl ?_)
   rintro v22 w23 ⟨hx24, h25⟩
   have hs26 := hs13.call hx24
   have p27 := Step.ext (O := ks [] O) hx24
   clear hx24
   replace f_s := f_s.step p27; replace f20 := f20.step p27; clear p27 hs13
   obtain ⟨rfl, r_y28⟩ := h25
   refine Rg_op rfl (op_assign (v := (Value.int .u64 get_1)) rfl ?_)
   refine Rg_nil ?_
   refine Wp_seq ?_
   clear f20
   refine Wp_drawR (g0 := []) (m := 14) (fl := []) (TS_inv hs26) rfl (.inl rfl) rfl (by decide +kernel) ?_  -- 5
   refine Dw_eq (Value.int .u64 get_1) (fun ρ29 w30 g hle hi ht => ?_) ?_
   ·
    obtain ⟨-, hst, -⟩ := hle
    refine StepOp_plain (op_move (v := (Value.int .u64 get_1)) (ht 6 rfl) ?_)
    exact Goes.same hi rfl
   refine Dw_eq (Value.bool (decide (0 < get_1))) (fun ρ32 w33 g hle hi ht => ?_) ?_
   ·
    obtain ⟨-, hst, -⟩ := hle
    refine StepOp_plain (op_gtr (ht 44 rfl) rfl ?_)
    exact Goes.same hi rfl
   refine Dw_opB (decide (0 < get_1)) (fun ρ35 w36 g hle hi ht => ?_) (fun hg38 => ?_) (fun hg38 => ?_)
   ·
    obtain ⟨-, hst, -⟩ := hle
    refine StepOp_plain (op_move (v := (Value.bool (decide (0 < get_1)))) (ht 45 rfl) ?_)
    exact Goes.same hi rfl
   ·
    replace hm := bif_t hm hg38
    refine Dw_eq (Value.slice a_s s.length c_s) (fun ρ39 w40 g hle hi ht => ?_) ?_
    ·
     obtain ⟨-, hst, -⟩ := hle
     refine StepOp_g rfl (ht 46 rfl) (op_move (v := (Value.slice a_s s.length c_s)) (ht 0 rfl) ?_)
     exact Goes.same hi rfl
    refine Dw_eq (Value.int .u64 get_1) (fun ρ42 w43 g hle hi ht => ?_) ?_
    ·
     obtain ⟨-, hst, -⟩ := hle
     refine StepOp_g rfl (ht 46 rfl) (op_move (v := (Value.int .u64 get_1)) (ht 6 rfl) ?_)
     exact Goes.same hi rfl
    refine Dw_eq (Value.int .i64 number) (fun ρ45 w46 g hle hi ht => ?_) ?_
    ·
     obtain ⟨-, hst, -⟩ := hle
     refine StepOp_g rfl (ht 46 rfl) (op_move (v := (Value.int .i64 number)) (ht 1 rfl) ?_)
     exact Goes.same hi rfl
    refine Dw_eq (Value.slice a_s s.length c_s) (fun ρ48 w49 g hle hi ht => ?_) ?_
    ·
     obtain ⟨-, hst, -⟩ := hle
     refine StepOp_g rfl (ht 46 rfl) (op_move (v := (Value.slice a_s s.length c_s)) (ht 0 rfl) ?_)
     exact Goes.same hi rfl
    replace hm := ck_some hm; obtain ⟨hc54, hm⟩ := hm
    refine Dw_op (VP O [] rU8 (s.getD 10 default)) (VP.stab _ _) (fun ρ51 w52 g hle hi ht => ?_) ?_
    ·
     obtain ⟨-, hst, -⟩ := hle
     replace f_s := f_s.step hst
     refine StepOp_g rfl (ht 46 rfl) (op_indexAddr (q := rU8) ty41 ty5 (ht 50 rfl) rfl f_s rfl hc54.1 hc54.2 ?_)
     intro p55 f56
     replace f56 : PtR rU8 _ _ p55 (s.getD 10 default) := f56
     exact Goes.same hi ⟨_, rfl, f56⟩
    refine Dw_eq (Value.int .u8 ((s.getD 10 default).toNat : Int)) (fun ρ57 w58 g hle hi ht => ?_) ?_
    ·
     obtain ⟨-, hst, -⟩ := hle
     obtain ⟨p60, q61, f62⟩ := ht 51 rfl
     refine StepOp_g rfl (ht 46 rfl) (op_loadP ty5 q61 f62 rfl ?_)
     intro v63 h64
     obtain rfl := un_u8 h64
     exact Goes.same hi rfl
    refine Dw_eq (Value.slice a_s s.length c_s) (fun ρ66 w67 g hle hi ht => ?_) ?_
    ·
     obtain ⟨-, hst, -⟩ := hle
     refine StepOp_g rfl (ht 46 rfl) (op_move (v := (Value.slice a_s s.length c_s)) (ht 0 rfl) ?_)
     exact Goes.same hi rfl
    refine Dw_eq (Value.int .i64 ((s.getD 11 default).toNat : Int)) (fun ρ69 w70 g hle hi ht => ?_) ?_
    ·
     obtain ⟨-, hst, -⟩ := hle
     refine StepOp_g rfl (ht 46 rfl) (op_move (v := (Value.int .i64 ((s.getD 11 default).toNat : Int))) (ht 5 rfl) ?_)
     exact Goes.same hi rfl
    refine Dw_eq (Value.int .i64 (IntKind.wrap .i64 (12 + ((s.getD 11 default).toNat : Int)))) (fun ρ72 w73 g hle hi ht => ?_) ?_
    ·
     obtain ⟨-, hst, -⟩ := hle
     refine StepOp_g rfl (ht 46 rfl) (op_addw rfl (ht 54 rfl) ?_)
     exact Goes.same hi rfl
    replace hm := ck_some hm; obtain ⟨hc78, hm⟩ := hm
    refine Dw_op (VD O [] (vC (rSl rU8)) ((s.drop 12).take ((IntKind.wrap .i64 (12 + ((s.getD 11 default).toNat : Int))).toNat - 12))) (VD.stab _ _) (fun ρ75 w76 g hle hi ht => ?_) ?_
    ·
     obtain ⟨-, hst, -⟩ := hle
     replace f_s := f_s.step hst
     refine StepOp_g rfl (ht 46 rfl) (op_slice (q := rU8) (l := 12) (h := (IntKind.wrap .i64 (12 + ((s.getD 11 default).toNat : Int))).toNat) (m := c_s) ty41 ty5 (ht 53 rfl) f_s rfl (bndI rfl (by omega)) (bndI (ht 55 rfl) (by omega)) rfl (by decide) (by omega) (by omega) (by have h_ : s.length ≤ c_s := f_s.le; omega) (by have h_ : s.length ≤ c_s := f_s.le; omega) ?_)
     intro a79 f80
     exact Goes.same hi (show Vr.vd (vC (rSl rU8)) _ _ _ _ from (mkC (mk_sl f80)))
    replace hm := bd hm; obtain ⟨encode_1, hv87, hm⟩ := hm
    refine Dw_op (VD O [] (vC (rSl rU8)) encode_1) (VD.stab _ _) (fun ρ81 w82 g hle hi ht => ?_) ?_
    ·
     obtain ⟨-, hst, -⟩ := hle
     have h84 : Vr.vd (vC (rSl rU8)) _ _ _ _ := ht 56 rfl
     obtain ⟨a_y86, c_y86, q85, f_y86⟩ := un_sl h84
     refine StepOp_g rfl (ht 46 rfl) (op_call Try.call63 (c63_journal_encode (O := ks (ents g ++ []) O) (generation := get_1) (number := number) (kind := (s.getD 10 default)) (b := ((s.drop 12).take ((IntKind.wrap .i64 (12 + ((s.getD 11 default).toNat : Int))).toNat - 12))) hi.ltw r_y28 r_number f_y86 hv87) (by simp only [List.map, Array.toList, (show ev _ (.tmp 48) = _ from (ht 48 rfl)), (show ev _ (.tmp 49) = _ from (ht 49 rfl)), (show ev _ (.tmp 52) = _ from (ht 52 rfl)), (show ev _ (.tmp 56) = _ from q85)] <;> rfl) ?_)
     rintro v88 w89 ⟨hx90, h91⟩
     exact Goes.call hi hx90 h91
    refine Dw_nil fun w97 g98 hl99 hi100 => ?_
    obtain ⟨-, hst101, -⟩ := hl99
    obtain ⟨hs103, p102⟩ := Step.nx hi100
    rintro v104 h105
    replace h105 : Vr.vd (vC (rSl rU8)) _ _ _ _ := h105
    obtain ⟨a_y106, c_y106, rfl, f_y106⟩ := un_sl h105
    rintro v107 h108
    replace h108 : Vr.vd (vC (rSl rU8)) _ _ _ _ := h108
    obtain ⟨a_y109, c_y109, rfl, f_y109⟩ := un_sl h108
    rintro _ rfl
    rintro _ rfl
    rintro _ rfl
    rintro _ rfl
    rintro _ ⟨p110, rfl, f111⟩
    rintro _ rfl
    rintro _ rfl
    rintro _ rfl
    rintro _ rfl
    rintro _ rfl
    rintro _ rfl
    rintro _ rfl
    have p112 : Step (ks [] O) w23 (ks [] O) w97 := hst101.trans p102
    replace f_y106 := f_y106.step p102; replace f_y109 := f_y109.step p102; replace f111 := f111.step p102; replace f_s := f_s.step p112; clear p112 hs26
    replace hm := bd hm; obtain ⟨equal_1, hv113, hm⟩ := hm
    refine Rg_opg rfl rfl rfl (op_call Try.call62 (c62_bytes_Equal (a := s) (b := encode_1) hs103.ltw f_s f_y106 hv113) rfl ?_)
    rintro v114 w115 ⟨hx116, h117⟩
    have hs118 := hs103.call hx116
    have p119 := Step.ext (O := ks [] O) hx116
    clear hx116
    replace f_s := f_s.step p119; replace f_y106 := f_y106.step p119; replace f_y109 := f_y109.step p119; replace f111 := f111.step p119; clear p119 hs103
    obtain rfl := h117
    refine Rg_op rfl (op_pick_t (v := (Value.bool equal_1)) rfl rfl ?_)
    refine Rg_op rfl (op_assign (v := (Value.bool equal_1)) rfl ?_)
    refine Rg_nil ?_
    refine Wp_ret ?_
    have hz := step_all hs118
    replace f_s := f_s.step hz; replace f_y106 := f_y106.step hz; replace f_y109 := f_y109.step hz; replace f111 := f111.step hz
    refine ⟨_, (show Closes [] _ _ from rfl), [(Value.bool equal_1)], ⟨rfl, trivial⟩, hs118.ext, ?_⟩
    exact Vr.eq (a := vB) (x := equal_1) rfl (Option.some.inj hm)
   ·
    replace hm := bif_f hm hg38
    refine Dw_skip (fun _ _ _ ht => wanted_x rfl (ht 46 rfl) rfl) ?_
    refine Dw_skip (fun _ _ _ ht => wanted_x rfl (ht 46 rfl) rfl) ?_
    refine Dw_skip (fun _ _ _ ht => wanted_x rfl (ht 46 rfl) rfl) ?_
    refine Dw_skip (fun _ _ _ ht => wanted_x rfl (ht 46 rfl) rfl) ?_
    refine Dw_skip (fun _ _ _ ht => wanted_x rfl (ht 46 rfl) rfl) ?_
    refine Dw_skip (fun _ _ _ ht => wanted_x rfl (ht 46 rfl) rfl) ?_
    refine Dw_skip (fun _ _ _ ht => wanted_x rfl (ht 46 rfl) rfl) ?_
    refine Dw_skip (fun _ _ _ ht => wanted_x rfl (ht 46 rfl) rfl) ?_
    refine Dw_skip (fun _ _ _ ht => wanted_x rfl (ht 46 rfl) rfl) ?_
    refine Dw_skip (fun _ _ _ ht => wanted_x rfl (ht 46 rfl) rfl) ?_
    refine Dw_skip (fun _ _ _ ht => wanted_x rfl (ht 46 rfl) rfl) ?_
    refine Dw_nil fun w125 g126 hl127 hi128 => ?_
    obtain ⟨-, hst129, -⟩ := hl127
    obtain ⟨hs131, p130⟩ := Step.nx hi128
    rintro _ rfl
    rintro _ rfl
    rintro _ rfl
    rintro _ rfl
    rintro _ rfl
    rintro _ rfl
    rintro _ rfl
    rintro _ rfl
    rintro _ rfl
    rintro _ rfl
    rintro _ rfl
    rintro _ rfl
    rintro _ rfl
    rintro _ rfl
    have p132 : Step (ks [] O) w23 (ks [] O) w125 := hst129.trans p130
    replace f_s := f_s.step p132; clear p132 hs26
    refine Rg_opx rfl (asB_ne rfl rfl) rfl ?_
    refine Rg_op rfl (op_pick_f (v := (Value.bool false)) rfl rfl ?_)
    refine Rg_op rfl (op_assign (v := (Value.bool false)) rfl ?_)
    refine Rg_nil ?_
    refine Wp_ret ?_
    have hz := step_all hs131
    replace f_s := f_s.step hz
    refine ⟨_, (show Closes [] _ _ from rfl), [(Value.bool false)], ⟨rfl, trivial⟩, hs131.ext, ?_⟩
    exact Vr.eq (a := vB) (x := false) rfl (Option.some.inj hm)
 ·
  intro K11 hK11
  have ch133 := Step.refl (ks [] O) w
  clear f3
  refine Wp_region ?_
  refine Rg_op rfl (op_move (v := (Value.int .i64 ((s.getD 11 default).toNat : Int))) rfl ?_)
  refine Rg_op rfl (op_gtr rfl rfl ?_)
  refine Rg_op rfl (op_move (v := (Value.bool (decide (112 < ((s.getD 11 default).toNat : Int))))) rfl ?_)
  refine Rg_case (fun hg134 => ?_) (fun hg134 => ?_)
  ·
   replace hm := bif_t hm hg134
   iterate 4 refine Rg_opx rfl (asB_ne rfl rfl) rfl ?_
   refine Rg_op rfl (op_pick_t (v := (Value.bool true)) rfl rfl ?_)
   refine Rg_op rfl (op_move (v := (Value.bool true)) rfl ?_)
   iterate 9 refine Rg_opx rfl (asB_ne rfl rfl) rfl ?_
   refine Rg_op rfl (op_pick_t (v := (Value.bool true)) rfl rfl ?_)
   refine Rg_op rfl (op_move (v := (Value.bool true)) rfl ?_)
   iterate 9 refine Rg_opx rfl (asB_ne rfl rfl) rfl ?_
   refine Rg_op rfl (op_pick_t (v := (Value.bool true)) rfl rfl ?_)
   refine Rg_nil ?_
   exact hK11 _ _ ⟨true, _, rfl, ⟨(by repeat (first | with_reducible exact Out.refl _ _ | refine Out.upd ?_ rfl | refine Out.updL ?_ rfl | refine Out.mix' ?_ rfl | exact Out.refl _ _)), rfl, rfl, trivial⟩, ch133, hs, hm⟩
  ·
   replace hm := bif_f hm hg134
   refine Rg_opg rfl rfl rfl (op_move (v := (Value.slice a_s s.length c_s)) rfl ?_)
   replace hm := ck_some hm; obtain ⟨hc135, hm⟩ := hm
   refine Rg_opg rfl rfl rfl (op_indexAddr (q := rU8) ty41 ty5 rfl rfl f_s rfl hc135.1 hc135.2 ?_)
   intro p136 f137
   replace f137 : PtR rU8 _ _ p136 (s.getD 10 default) := f137
   refine Rg_opg rfl rfl rfl (op_loadP ty5 rfl f137 rfl ?_)
   intro v138 h139
   obtain rfl := un_u8 h139
   refine Rg_opg rfl rfl rfl (op_gtr rfl rfl ?_)
   refine Rg_op rfl (op_pick_f (v := (Value.bool (decide (3 < ((s.getD 10 default).toNat : Int))))) rfl rfl ?_)
   refine Rg_op rfl (op_move (v := (Value.bool (decide (3 < ((s.getD 10 default).toNat : Int))))) rfl ?_)
   refine Rg_case (fun hg141 => ?_) (fun hg141 => ?_)
   ·
    replace hm := bif_t hm hg141
    iterate 9 refine Rg_opx rfl (asB_ne rfl rfl) rfl ?_
    refine Rg_op rfl (op_pick_t (v := (Value.bool true)) rfl rfl ?_)
    refine Rg_op rfl (op_move (v := (Value.bool true)) rfl ?_)
    iterate 9 refine Rg_opx rfl (asB_ne rfl rfl) rfl ?_
    refine Rg_op rfl (op_pick_t (v := (Value.bool true)) rfl rfl ?_)
    refine Rg_nil ?_
    exact hK11 _ _ ⟨true, _, rfl, ⟨(by repeat (first | with_reducible exact Out.refl _ _ | refine Out.upd ?_ rfl | refine Out.updL ?_ rfl | refine Out.mix' ?_ rfl | exact Out.refl _ _)), rfl, rfl, trivial⟩, ch133, hs, hm⟩
   ·
    replace hm := bif_f hm hg141
    refine Rg_opg rfl rfl rfl (op_move (v := (Value.slice a_s s.length c_s)) rfl ?_)
    replace hm := ck_some hm; obtain ⟨hc142, hm⟩ := hm
    refine Rg_opg rfl rfl rfl (op_indexAddr (q := rU8) ty41 ty5 rfl rfl f_s rfl hc142.1 hc142.2 ?_)
    intro p143 f144
    replace f144 : PtR rU8 _ _ p143 (s.getD 10 default) := f144
    refine Rg_opg rfl rfl rfl (op_loadP ty5 rfl f144 rfl ?_)
    intro v145 h146
    obtain rfl := un_u8 h146
    refine Rg_opg rfl rfl rfl (run1_u8 (e := (Go.bits .and .u8 ((s.getD 10 default).toNat : Int) 2)) (inK_bits .and .u8 _ _) (fun _ hk => op_and rfl rfl hk) ?_)
    refine Rg_opg rfl rfl rfl (op_eql rfl rfl ?_)
    refine Rg_opg rfl rfl rfl (op_move (v := (Value.bool (decide (((UInt8.ofNat (Go.bits .and .u8 ((s.getD 10 default).toNat : Int) 2).toNat).toNat : Int) = 0)))) rfl ?_)
    refine Rg_case (fun hg148 => ?_) (fun hg148 => ?_)
    ·
     replace hm := bif_t hm hg148
     refine Rg_opg rfl rfl rfl (op_move (v := (Value.int .i64 ((s.getD 11 default).toNat : Int))) rfl ?_)
     refine Rg_opg rfl rfl rfl (op_lss rfl rfl ?_)
     refine Rg_opg rfl rfl rfl (op_pick_t (v := (Value.bool (decide (((s.getD 11 default).toNat : Int) < 112)))) rfl rfl ?_)
     refine Rg_op rfl (op_pick_f (v := (Value.bool (decide (((s.getD 11 default).toNat : Int) < 112)))) rfl rfl ?_)
     refine Rg_op rfl (op_move (v := (Value.bool (decide (((s.getD 11 default).toNat : Int) < 112)))) rfl ?_)
     refine Rg_case (fun hg149 => ?_) (fun hg149 => ?_)
     ·
      replace hm := bif_t hm hg149
      iterate 9 refine Rg_opx rfl (asB_ne rfl rfl) rfl ?_
      refine Rg_op rfl (op_pick_t (v := (Value.bool true)) rfl rfl ?_)
      refine Rg_nil ?_
      exact hK11 _ _ ⟨true, _, rfl, ⟨(by repeat (first | with_reducible exact Out.refl _ _ | refine Out.upd ?_ rfl | refine Out.updL ?_ rfl | refine Out.mix' ?_ rfl | exact Out.refl _ _)), rfl, rfl, trivial⟩, ch133, hs, hm⟩
     ·
      replace hm := bif_f hm hg149
      refine Rg_opg rfl rfl rfl (op_move (v := (Value.slice a_s s.length c_s)) rfl ?_)
      replace hm := ck_some hm; obtain ⟨hc150, hm⟩ := hm
      refine Rg_opg rfl rfl rfl (op_indexAddr (q := rU8) ty41 ty5 rfl rfl f_s rfl hc150.1 hc150.2 ?_)
      intro p151 f152
      replace f152 : PtR rU8 _ _ p151 (s.getD 10 default) := f152
      refine Rg_opg rfl rfl rfl (op_loadP ty5 rfl f152 rfl ?_)
      intro v153 h154
      obtain rfl := un_u8 h154
      refine Rg_opg rfl rfl rfl (run1_u8 (e := (Go.bits .and .u8 ((s.getD 10 default).toNat : Int) 1)) (inK_bits .and .u8 _ _) (fun _ hk => op_and rfl rfl hk) ?_)
      refine Rg_opg rfl rfl rfl (op_eql rfl rfl ?_)
      refine Rg_opg rfl rfl rfl (op_move (v := (Value.bool (decide (((UInt8.ofNat (Go.bits .and .u8 ((s.getD 10 default).toNat : Int) 1).toNat).toNat : Int) = 0)))) rfl ?_)
      refine Rg_case (fun hg156 => ?_) (fun hg156 => ?_)
      ·
       replace hm := bif_t hm hg156
       refine Rg_opg rfl rfl rfl (op_move (v := (Value.int .i64 ((s.getD 11 default).toNat : Int))) rfl ?_)
       refine Rg_opg rfl rfl rfl (op_eql rfl rfl ?_)
       refine Rg_opg rfl rfl rfl (op_pick_t (v := (Value.bool (decide (((s.getD 11 default).toNat : Int) = 0)))) rfl rfl ?_)
       refine Rg_op rfl (op_pick_f (v := (Value.bool (decide (((s.getD 11 default).toNat : Int) = 0)))) rfl rfl ?_)
       refine Rg_nil ?_
       exact hK11 _ _ ⟨(decide (((s.getD 11 default).toNat : Int) = 0)), _, rfl, ⟨(by repeat (first | with_reducible exact Out.refl _ _ | refine Out.upd ?_ rfl | refine Out.updL ?_ rfl | refine Out.mix' ?_ rfl | exact Out.refl _ _)), rfl, rfl, trivial⟩, ch133, hs, hm⟩
      ·
       replace hm := bif_f hm hg156
       iterate 2 refine Rg_opx rfl (asB_ne rfl rfl) rfl ?_
       refine Rg_opg rfl rfl rfl (op_pick_f (v := (Value.bool false)) rfl rfl ?_)
       refine Rg_op rfl (op_pick_f (v := (Value.bool false)) rfl rfl ?_)
       refine Rg_nil ?_
       exact hK11 _ _ ⟨false, _, rfl, ⟨(by repeat (first | with_reducible exact Out.refl _ _ | refine Out.upd ?_ rfl | refine Out.updL ?_ rfl | refine Out.mix' ?_ rfl | exact Out.refl _ _)), rfl, rfl, trivial⟩, ch133, hs, hm⟩
    ·
     replace hm := bif_f hm hg148
     iterate 2 refine Rg_opx rfl (asB_ne rfl rfl) rfl ?_
     refine Rg_opg rfl rfl rfl (op_pick_f (v := (Value.bool false)) rfl rfl ?_)
     refine Rg_op rfl (op_pick_f (v := (Value.bool false)) rfl rfl ?_)
     refine Rg_op rfl (op_move (v := (Value.bool false)) rfl ?_)
     refine Rg_opg rfl rfl rfl (op_move (v := (Value.slice a_s s.length c_s)) rfl ?_)
     replace hm := ck_some hm; obtain ⟨hc157, hm⟩ := hm
     refine Rg_opg rfl rfl rfl (op_indexAddr (q := rU8) ty41 ty5 rfl rfl f_s rfl hc157.1 hc157.2 ?_)
     intro p158 f159
     replace f159 : PtR rU8 _ _ p158 (s.getD 10 default) := f159
     refine Rg_opg rfl rfl rfl (op_loadP ty5 rfl f159 rfl ?_)
     intro v160 h161
     obtain rfl := un_u8 h161
     refine Rg_opg rfl rfl rfl (run1_u8 (e := (Go.bits .and .u8 ((s.getD 10 default).toNat : Int) 1)) (inK_bits .and .u8 _ _) (fun _ hk => op_and rfl rfl hk) ?_)
     refine Rg_opg rfl rfl rfl (op_eql rfl rfl ?_)
     refine Rg_opg rfl rfl rfl (op_move (v := (Value.bool (decide (((UInt8.ofNat (Go.bits .and .u8 ((s.getD 10 default).toNat : Int) 1).toNat).toNat : Int) = 0)))) rfl ?_)
     refine Rg_case (fun hg163 => ?_) (fun hg163 => ?_)
     ·
      replace hm := bif_t hm hg163
      refine Rg_opg rfl rfl rfl (op_move (v := (Value.int .i64 ((s.getD 11 default).toNat : Int))) rfl ?_)
      refine Rg_opg rfl rfl rfl (op_eql rfl rfl ?_)
      refine Rg_opg rfl rfl rfl (op_pick_t (v := (Value.bool (decide (((s.getD 11 default).toNat : Int) = 0)))) rfl rfl ?_)
      refine Rg_op rfl (op_pick_f (v := (Value.bool (decide (((s.getD 11 default).toNat : Int) = 0)))) rfl rfl ?_)
      refine Rg_nil ?_
      exact hK11 _ _ ⟨(decide (((s.getD 11 default).toNat : Int) = 0)), _, rfl, ⟨(by repeat (first | with_reducible exact Out.refl _ _ | refine Out.upd ?_ rfl | refine Out.updL ?_ rfl | refine Out.mix' ?_ rfl | exact Out.refl _ _)), rfl, rfl, trivial⟩, ch133, hs, hm⟩
     ·
      replace hm := bif_f hm hg163
      iterate 2 refine Rg_opx rfl (asB_ne rfl rfl) rfl ?_
      refine Rg_opg rfl rfl rfl (op_pick_f (v := (Value.bool false)) rfl rfl ?_)
      refine Rg_op rfl (op_pick_f (v := (Value.bool false)) rfl rfl ?_)
      refine Rg_nil ?_
      exact hK11 _ _ ⟨false, _, rfl, ⟨(by repeat (first | with_reducible exact Out.refl _ _ | refine Out.upd ?_ rfl | refine Out.updL ?_ rfl | refine Out.mix' ?_ rfl | exact Out.refl _ _)), rfl, rfl, trivial⟩, ch133, hs, hm⟩

end Go.Fx



set_option linter.unusedVariables false
set_option linter.unusedSimpArgs false
set_option maxRecDepth 100000
set_option maxHeartbeats 0
namespace Go.Fx
open Go Go.RowKit Go.Proofs
def m69_journal_records_1_B1 (fv0_ : List (List UInt8)) (sf11 : Int → Int → Option (List (Int × (List UInt8)))) (sf34 : Int → Int → (List UInt8) → Int → Option (List (Int × (List UInt8)))) (at_2 : Int) (last_2 : Int) (b_1 : List UInt8) (n_1 : Int) : Option (List (Int × (List UInt8))) :=
 bif (decide (n_1 < (fv0_.length : Int))) then
  ck ((0 : Int) ≤ n_1 ∧ n_1 < (fv0_.length : Int)) <|
  jn (fun (v_1 : Bool) =>
   bif v_1 then
    some ([] : List (Int × (List UInt8)))
   else
    ck ((0 : Int) ≤ 11 ∧ 11 < ((fv0_.getD n_1.toNat default).length : Int)) <|
    ck ((0 : Int) ≤ 12 ∧ (12 : Int) ≤ (IntKind.wrap .i64 (12 + (((fv0_.getD n_1.toNat default).getD 11 default).toNat : Int))) ∧ (IntKind.wrap .i64 (12 + (((fv0_.getD n_1.toNat default).getD 11 default).toNat : Int))) ≤ ((fv0_.getD n_1.toNat default).length : Int)) <|
    ck ((b_1.length + (((fv0_.getD n_1.toNat default).drop 12).take ((IntKind.wrap .i64 (12 + (((fv0_.getD n_1.toNat default).getD 11 default).toNat : Int))).toNat - 12)).length) * 1 ≤ 140737488355328) <|
    ck ((0 : Int) ≤ 10 ∧ 10 < ((fv0_.getD n_1.toNat default).length : Int)) <|
    bif (decide (((UInt8.ofNat (Go.bits .and .u8 (((fv0_.getD n_1.toNat default).getD 10 default).toNat : Int) 2).toNat).toNat : Int) ≠ 0)) then
     ck ((0 : Int) ≤ (4 : Int) ∧ (4 : Int) ≤ ((fv0_.getD n_1.toNat default).length : Int)) <|
     (m60_journal_get (((fv0_.getD n_1.toNat default).drop 0).take (4 - 0))).bind fun get_1 =>
     yl ((IntKind.wrap .i64 (n_1 + 1)), (b_1 ++ (((fv0_.getD n_1.toNat default).drop 12).take ((IntKind.wrap .i64 (12 + (((fv0_.getD n_1.toNat default).getD 11 default).toNat : Int))).toNat - 12)))) (
     sf11 (IntKind.wrap .i64 (n_1 + 1)) get_1)
    else
     sf34 at_2 last_2 (b_1 ++ (((fv0_.getD n_1.toNat default).drop 12).take ((IntKind.wrap .i64 (12 + (((fv0_.getD n_1.toNat default).getD 11 default).toNat : Int))).toNat - 12))) (IntKind.wrap .i64 (n_1 + 1)))
  (fun k69 =>
   (m70_journal_good (fv0_.getD n_1.toNat default) n_1).bind fun good_1 =>
   bif (!good_1) then
    k69 true
   else
    ck ((0 : Int) ≤ 10 ∧ 10 < ((fv0_.getD n_1.toNat default).length : Int)) <|
    bif (!((decide (((UInt8.ofNat (Go.bits .and .u8 (((fv0_.getD n_1.toNat default).getD 10 default).toNat : Int) 1).toNat).toNat : Int) ≠ 0)) == (decide (n_1 = at_2)))) then
     k69 true
    else
     ck ((0 : Int) ≤ (4 : Int) ∧ (4 : Int) ≤ ((fv0_.getD n_1.toNat default).length : Int)) <|
     (m60_journal_get (((fv0_.getD n_1.toNat default).drop 0).take (4 - 0))).bind fun get_2 =>
     ck ((0 : Int) ≤ at_2 ∧ at_2 < (fv0_.length : Int)) <|
     ck ((0 : Int) ≤ (4 : Int) ∧ (4 : Int) ≤ ((fv0_.getD at_2.toNat default).length : Int)) <|
     (m60_journal_get (((fv0_.getD at_2.toNat default).drop 0).take (4 - 0))).bind fun get_3 =>
     bif (decide (get_2 ≠ get_3)) then
      k69 true
     else
      ck ((0 : Int) ≤ (4 : Int) ∧ (4 : Int) ≤ ((fv0_.getD n_1.toNat default).length : Int)) <|
      (m60_journal_get (((fv0_.getD n_1.toNat default).drop 0).take (4 - 0))).bind fun get_4 =>
      k69 (decide (get_4 < last_2)))
 else
  some ([] : List (Int × (List UInt8)))

def m69_journal_records_1_B0 (fv0_ : List (List UInt8)) (sf11 : Int → Int → Option (List (Int × (List UInt8)))) (at_1 : Int) (last_1 : Int) : Option (List (Int × (List UInt8))) :=
 loop4 (m69_journal_records_1_B1 fv0_ sf11) (((fv0_.length : Int) - at_1).toNat + 1) at_1 last_1 ([] : List UInt8) at_1

def m69_journal_records_1 (fv0_ : List (List UInt8)) : Option (List (Int × (List UInt8))) :=
 loop2 (m69_journal_records_1_B0 fv0_) (1000000) 0 0

theorem c69_journal_records_1 {w : World} {O : List Nat} {fv0_ : List (List UInt8)} {p_fv0_ : Addr} (hO : ∀ k ∈ O, k < w.heap.size) (f_fv0_ : PtR (rSl (rSl rU8)) w O p_fv0_ fv0_) {L : List (Int × (List UInt8))} (hm : m69_journal_records_1 fv0_ = some L) :
  IterF Try.prog w O 69 [(Value.pointer (some p_fv0_))] (enc2 (vI .i64) (vC (rSl rU8))) L := by
 unfold m69_journal_records_1 at hm
 obtain ⟨x, hm, hL⟩ : ∃ x, _ = some x ∧ L = [] ++ x := ⟨L, hm, rfl⟩
 intro w1 O1 hst0 hO1 l J Jx hJ hJx hY h0
 replace f_fv0_ := f_fv0_.step hst0
 refine Fn_of_Wp (n := 77) (xs := []) Try.func69 rfl Try.ntmps69 Try.results69 rfl ?_
 have hs := St.start hO1
 have hI := Itr.start h0
 refine Wp_scope ?_
 refine Wp_seq ?_
 refine Wp_region ?_
 refine Rg_op rfl (op_assign (v := (Value.int .i64 0)) rfl ?_)
 refine Rg_op rfl (op_assign (v := (Value.int .u64 0)) rfl ?_)
 refine Rg_nil ?_
 refine Wp_seq ?_
 refine Wp_label ?_
 refine Wp_block ?_
 refine Wp_reset [] [(0, (Value.func (.yield l) #[] #[])), (1, (Value.pointer (some p_fv0_))), (3, (Value.int .i64 0)), (4, (Value.int .u64 0))] rfl ⟨rfl, rfl, rfl, rfl, trivial⟩ fun ξ10 => ?_
 refine Wp_loopM [3, 4, 5, 6, 7, 8, 9, 10, 11, 12, 13, 14, 15, 16, 17, 18, 19, 20, 21, 22, 23, 24, 25, 26, 27, 28, 29, 30, 31, 32, 33, 34, 35, 36, 37, 38, 39, 40, 41, 42, 43, 44, 45, 46, 47, 48, 49, 50, 51, 52, 53, 54, 55, 56, 57, 58, 59, 60, 61, 62, 63, 64, 65, 66, 67, 68, 69, 70, 71, 72, 73, 74, 75, 76] (fun m fr w' => ∃ (at_1 : Int) (last_1 : Int) (xr3 pre4 : List (Int × (List UInt8))) (wz5 : World) (Kz6 Oz7 : List Nat) (Ebs : Ents), Ebs = [] ∧ fr [] [(3, (Value.int .i64 at_1)), (4, (Value.int .u64 last_1))] ∧ Step (ks [] O1) w1 (ks Ebs Oz7) w' ∧ St ⟨wz5, Kz6, []⟩ Oz7 w' Ebs ∧ InK .i64 at_1 ∧ InK .u64 last_1 ∧ Itr J pre4 ⟨wz5, Kz6, []⟩ Oz7 ∧ L = pre4 ++ xr3 ∧ loop2 (m69_journal_records_1_B0 fv0_) m at_1 last_1 = some xr3) (1000000) ⟨0, 0, x, ([] : List _), w1, [], O1, _, rfl, ⟨Out.refl _ _, rfl, rfl, rfl, trivial⟩, Step.refl _ _, hs, (show InK .i64 0 from by decide), (show InK .u64 0 from by decide), hI, hL, hm⟩ ?_ ?_
 · rintro _ _ ⟨_, _, _, _, _, _, _, _, _, _, _, _, _, _, _, _, hm⟩; exact loop2_z hm
 ·
  rintro m14 K13 hK13 ρ19 w15 ⟨at_1, last_1, xr3, pre4, wz5, Kz6, Oz7, Ebs, hEbs, hfr18, hst17, hs16, r_y1, r_y2, hI8, hL9, hm⟩
  obtain ⟨sf11, hsf12, hm⟩ := loop2_s hm; unfold m69_journal_records_1_B0 at hm
  subst hEbs; rw [hfr18.eq]; clear hfr18
  replace f_fv0_ := f_fv0_.step hst17
  have ch20 := hst17
  refine Wp_block ?_
  refine Wp_seq ?_
  refine Wp_region ?_
  refine Rg_op rfl (op_assign (v := (Value.slice none 0 0)) rfl ?_)
  refine Rg_nil ?_
  refine Wp_seq ?_
  refine Wp_seq ?_
  refine Wp_region ?_
  refine Rg_op rfl (op_move (v := (Value.int .i64 at_1)) rfl ?_)
  refine Rg_op rfl (op_assign (v := (Value.int .i64 at_1)) rfl ?_)
  refine Rg_nil ?_
  refine Wp_block ?_
  refine Wp_reset2 [3, 4, 5, 6, 7, 8, 9, 10, 11, 12, 13, 14, 15, 16, 17, 18, 19, 20, 21, 22, 23, 24, 25, 26, 27, 28, 29, 30, 31, 32, 33, 34, 35, 36, 37, 38, 39, 40, 41, 42, 43, 44, 45, 46, 47, 48, 49, 50, 51, 52, 53, 54, 55, 56, 57, 58, 59, 60, 61, 62, 63, 64, 65, 66, 67, 68, 69, 70, 71, 72, 73, 74, 75, 76] [] (updL ⟨ξ10, []⟩ [(0, (Value.func (.yield l) #[] #[])), (1, (Value.pointer (some p_fv0_))), (3, (Value.int .i64 0)), (4, (Value.int .u64 0))]) [(3, (Value.int .i64 at_1)), (4, (Value.int .u64 last_1)), (5, (Value.slice none 0 0)), (6, (Value.int .i64 at_1))] (by repeat (first | with_reducible exact Out.refl _ _ | refine Out.upd ?_ rfl | refine Out.updL ?_ rfl | refine Out.mix' ?_ rfl | exact Out.refl _ _)) rfl ⟨rfl, rfl, rfl, rfl, trivial⟩ fun ξ33 => ?_
  have hs38 := hs16.ghost (Obj.cells #[] 5)
  refine Wp_loopM [3, 4, 5, 6, 7, 9, 10, 11, 12, 13, 14, 15, 16, 17, 18, 19, 20, 21, 22, 23, 24, 25, 26, 27, 28, 29, 30, 31, 32, 33, 34, 35, 36, 37, 38, 39, 40, 41, 42, 43, 44, 45, 46, 47, 48, 49, 50, 51, 52, 53, 54, 55, 56, 57, 58, 59, 60, 61, 62, 63, 64, 65, 66, 67, 68, 69, 70, 71, 72, 73, 74, 75, 76] (fun m fr w' => ∃ (at_2 : Int) (last_2 : Int) (b_1 : List UInt8) (n_1 : Int) (a_g24 : Option Addr) (c_g24 : Nat) (k_g24 : Option Nat) (o_g24 : Obj) (xr26 pre27 : List (Int × (List UInt8))) (wz28 : World) (Kz29 Oz30 : List Nat) (Ebs : Ents), Ebs = [(k_g24, o_g24)] ∧ fr [] [(3, (Value.int .i64 at_2)), (4, (Value.int .u64 last_2)), (5, (Value.slice a_g24 b_1.length c_g24)), (6, (Value.int .i64 n_1))] ∧ Step (ks [(none, (Obj.cells #[] 5))] Oz7) w15 (ks Ebs Oz30) w' ∧ St ⟨wz28, Kz29, []⟩ Oz30 w' Ebs ∧ InK .i64 at_2 ∧ InK .u64 last_2 ∧ Gs rU8 5 w' (ks Ebs Oz30) a_g24 c_g24 b_1 k_g24 o_g24 ∧ InK .i64 n_1 ∧ Itr J pre27 ⟨wz28, Kz29, []⟩ Oz30 ∧ L = pre27 ++ xr26 ∧ loop4 (m69_journal_records_1_B1 fv0_ sf11) m at_2 last_2 b_1 n_1 = some xr26) (((fv0_.length : Int) - at_1).toNat + 1) ⟨at_1, last_1, ([] : List UInt8), at_1, none, 0, none, (Obj.cells #[] 5), xr3, pre4, wz5, Kz6, Oz7, _, rfl, ⟨Out.refl _ _, rfl, rfl, rfl, rfl, rfl, trivial⟩, Step.refl _ _, hs38, r_y1, r_y2, Gs.nil_, r_y1, hI8, hL9, hm⟩ ?_ ?_
  · rintro _ _ ⟨_, _, _, _, _, _, _, _, _, _, _, _, _, _, _, _, _, _, _, _, _, _, _, _, hm⟩; exact loop4_z hm
  ·
   rintro m37 K36 hK36 ρ44 w40 ⟨at_2, last_2, b_1, n_1, a_g24, c_g24, k_g24, o_g24, xr26, pre27, wz28, Kz29, Oz30, Ebs, hEbs, hfr43, hst42, hs41, r_y21, r_y22, f_g24, r_y25, hI31, hL32, hm⟩
   obtain ⟨sf34, hsf35, hm⟩ := loop4_s hm; unfold m69_journal_records_1_B1 at hm
   subst hEbs; rw [hfr43.eq]; clear hfr43
   replace f_fv0_ := f_fv0_.step hst42; replace ch20 := ch20.trans hst42
   have ch45 := hst42
   refine Wp_seq ?_
   refine Wp_seq ?_
   refine Wp_region ?_
   refine Rg_op rfl (op_move (v := (Value.int .i64 n_1)) rfl ?_)
   refine Rg_op rfl (op_loadP ty22 rfl f_fv0_ rfl ?_)
   intro v46 h47
   obtain ⟨a_y48, c_y48, rfl, f_y48⟩ := un_sl h47
   refine Rg_op rfl (op_len Try.underlying22 rfl ?_)
   have rl49 := inK_len f_y48
   refine Rg_op rfl (op_lss rfl rfl ?_)
   refine Rg_nil ?_
   refine Wp_cond rfl (fun hc50 => ?_) (fun hc50 => ?_)
   ·
    replace hm := bif_t hm hc50
    refine Wp_skip ?_
    refine Wp_seq ?_
    refine Wp_block ?_
    refine Wp_seq ?_
    clear f_y48
    refine Wp_region ?_
    refine Rg_op rfl (op_loadP ty22 rfl f_fv0_ rfl ?_)
    intro v51 h52
    obtain ⟨a_y53, c_y53, rfl, f_y53⟩ := un_sl h52
    refine Rg_op rfl (op_move (v := (Value.int .i64 n_1)) rfl ?_)
    replace hm := ck_some hm; obtain ⟨hc54, hm⟩ := hm
    refine Rg_op rfl (op_indexAddr (q := (rSl rU8)) ty22 ty41 rfl rfl f_y53 rfl hc54.1 hc54.2 ?_)
    intro p55 f56
    refine Rg_op rfl (op_loadP ty41 rfl f56 rfl ?_)
    intro v57 h58
    obtain ⟨a_y59, c_y59, rfl, f_y59⟩ := un_sl h58
    refine Rg_op rfl (op_assign (v := (Value.slice a_y59 (fv0_.getD n_1.toNat default).length c_y59)) rfl ?_)
    refine Rg_nil ?_
    refine Wp_seq ?_
    refine Wp_reset2 [3, 4, 5, 6, 7, 9, 10, 11, 12, 13, 14, 15, 16, 17, 18, 19, 20, 21, 22, 23, 24, 25, 26, 27, 28, 29, 30, 31, 32, 33, 34, 35, 36, 37, 38, 39, 40, 41, 42, 43, 44, 45, 46, 47, 48, 49, 50, 51, 52, 53, 54, 55, 56, 57, 58, 59, 60, 61, 62, 63, 64, 65, 66, 67, 68, 69, 70, 71, 72, 73, 74, 75, 76] [] (updL (mix [3, 4, 5, 6, 7, 8, 9, 10, 11, 12, 13, 14, 15, 16, 17, 18, 19, 20, 21, 22, 23, 24, 25, 26, 27, 28, 29, 30, 31, 32, 33, 34, 35, 36, 37, 38, 39, 40, 41, 42, 43, 44, 45, 46, 47, 48, 49, 50, 51, 52, 53, 54, 55, 56, 57, 58, 59, 60, 61, 62, 63, 64, 65, 66, 67, 68, 69, 70, 71, 72, 73, 74, 75, 76] [] ξ33 (updL ⟨ξ10, []⟩ [(0, (Value.func (.yield l) #[] #[])), (1, (Value.pointer (some p_fv0_))), (3, (Value.int .i64 0)), (4, (Value.int .u64 0))])) [(3, (Value.int .i64 at_1)), (4, (Value.int .u64 last_1)), (5, (Value.slice none 0 0)), (6, (Value.int .i64 at_1))]) [(3, (Value.int .i64 at_2)), (4, (Value.int .u64 last_2)), (5, (Value.slice a_g24 b_1.length c_g24)), (6, (Value.int .i64 n_1)), (7, (Value.slice a_y59 (fv0_.getD n_1.toNat default).length c_y59))] (by repeat (first | with_reducible exact Out.refl _ _ | refine Out.upd ?_ rfl | refine Out.updL ?_ rfl | refine Out.mix' ?_ rfl | exact Out.refl _ _)) rfl ⟨rfl, rfl, rfl, rfl, rfl, trivial⟩ fun ξ60 => ?_
    replace hm := jn_elim hm; obtain ⟨k69, hk70, hm⟩ := hm
    refine Wp_seqJ [19, 20, 21, 22, 23, 24, 25, 26, 27, 28, 29, 30, 31, 32, 33, 34, 35, 36, 37, 38, 39, 40, 41, 42, 43, 44, 45, 46, 47, 48, 49, 50, 51, 52] (fun fr w' => ∃ (v_1 : Bool) (xr62 pre63 : List (Int × (List UInt8))) (wz64 : World) (Kz65 Oz66 : List Nat) (Ebs : Ents), Ebs = [(k_g24, o_g24)] ∧ fr [] [(52, (Value.bool v_1))] ∧ Step (ks [(k_g24, o_g24)] Oz30) w40 (ks Ebs Oz66) w' ∧ St ⟨wz64, Kz65, []⟩ Oz66 w' Ebs ∧ Itr J pre63 ⟨wz64, Kz65, []⟩ Oz66 ∧ L = pre63 ++ xr62 ∧ k69 v_1 = some xr62) ?_ ?_
    ·
     rintro ρ76 w72 ⟨v_1, xr62, pre63, wz64, Kz65, Oz66, Ebs, hEbs, hfr75, hst74, hs73, hI67, hL68, hm⟩
     replace hm := jnE1 hk70 hm
     subst hEbs; rw [hfr75.eq]; clear hfr75
     replace f_fv0_ := f_fv0_.step hst74; replace f_g24 := f_g24.step hst74; replace f_y53 := f_y53.step hst74; replace f56 := f56.step hst74; replace f_y59 := f_y59.step hst74; replace ch20 := ch20.trans hst74; replace ch45 := ch45.trans hst74; clear hst74 hs41
     refine Wp_cond rfl (fun hc77 => ?_) (fun hc77 => ?_)
     ·
      replace hm := bif_t hm hc77
      refine Wp_ret ?_
      have h78 := hI67.fin hJ hs73
      rw [← Option.some.inj hm, List.append_nil] at hL68; rw [← hL68] at h78
      exact ⟨_, (show Closes [] _ _ from rfl), [], trivial, _, .inl h78⟩
     ·
      replace hm := bif_f hm hc77
      refine Wp_skip ?_
      refine Wp_seq ?_
      clear f_y53 f56
      refine Wp_region ?_
      refine Rg_op rfl (op_move (v := (Value.slice a_g24 b_1.length c_g24)) rfl ?_)
      refine Rg_op rfl (op_move (v := (Value.slice a_y59 (fv0_.getD n_1.toNat default).length c_y59)) rfl ?_)
      refine Rg_op rfl (op_move (v := (Value.slice a_y59 (fv0_.getD n_1.toNat default).length c_y59)) rfl ?_)
      replace hm := ck_some hm; obtain ⟨hc79, hm⟩ := hm
      refine Rg_op rfl (op_indexAddr (q := rU8) ty41 ty5 rfl rfl f_y59 rfl hc79.1 hc79.2 ?_)
      intro p80 f81
      replace f81 : PtR rU8 _ _ p80 ((fv0_.getD n_1.toNat default).getD 11 default) := f81
      refine Rg_op rfl (op_loadP ty5 rfl f81 rfl ?_)
      intro v82 h83
      obtain rfl := un_u8 h83
      refine Rg_op rfl (op_conv_u8 Try.underlying5 Try.underlying3 rfl (by decide) ?_)
      refine Rg_op rfl (op_addw rfl rfl ?_)
      replace hm := ck_some hm; obtain ⟨hc85, hm⟩ := hm
      refine Rg_op rfl (op_slice (q := rU8) (l := 12) (h := (IntKind.wrap .i64 (12 + (((fv0_.getD n_1.toNat default).getD 11 default).toNat : Int))).toNat) (m := c_y59) ty41 ty5 rfl f_y59 rfl (bndI rfl (by omega)) (bndI rfl (by omega)) rfl (by decide) (by omega) (by omega) (by have h_ : (fv0_.getD n_1.toNat default).length ≤ c_y59 := f_y59.le; omega) (by have h_ : (fv0_.getD n_1.toNat default).length ≤ c_y59 := f_y59.le; omega) ?_)
      intro a86 f87
      replace hm := ck_some hm; obtain ⟨hc88, hm⟩ := hm
      obtain ⟨ns89, he90, hr91⟩ := f87.src
      refine Rg_op rfl (op_append (q := rU8) (i := 0) (xs := b_1) (ys := (((fv0_.getD n_1.toNat default).drop 12).take ((IntKind.wrap .i64 (12 + (((fv0_.getD n_1.toNat default).getD 11 default).toNat : Int))).toNat - 12))) (news := ns89) ty41 ty5 rfl (by decide) hs73 rfl rfl f_g24 rfl hr91 he90 hc88 (by have := hc88; simp only [maxLen]; omega) ?_)
      intro a95 c96 k97 o98 w92 p93 hs94 f99
      replace f_fv0_ := f_fv0_.step p93; replace f_y59 := f_y59.step p93; replace f81 := f81.step p93; replace f87 := f87.step p93; replace ch20 := ch20.trans p93; replace ch45 := ch45.trans p93; clear p93 hs73
      refine Rg_op rfl (op_assign (v := (Value.slice a95 (b_1 ++ (((fv0_.getD n_1.toNat default).drop 12).take ((IntKind.wrap .i64 (12 + (((fv0_.getD n_1.toNat default).getD 11 default).toNat : Int))).toNat - 12))).length c96)) rfl ?_)
      refine Rg_nil ?_
      refine Wp_seq ?_
      clear f81 f87
      refine Wp_region ?_
      refine Rg_op rfl (op_move (v := (Value.slice a_y59 (fv0_.getD n_1.toNat default).length c_y59)) rfl ?_)
      replace hm := ck_some hm; obtain ⟨hc100, hm⟩ := hm
      refine Rg_op rfl (op_indexAddr (q := rU8) ty41 ty5 rfl rfl f_y59 rfl hc100.1 hc100.2 ?_)
      intro p101 f102
      replace f102 : PtR rU8 _ _ p101 ((fv0_.getD n_1.toNat default).getD 10 default) := f102
      refine Rg_op rfl (op_loadP ty5 rfl f102 rfl ?_)
      intro v103 h104
      obtain rfl := un_u8 h104
      refine Rg_op rfl (run1_u8 (e := (Go.bits .and .u8 (((fv0_.getD n_1.toNat default).getD 10 default).toNat : Int) 2)) (inK_bits .and .u8 _ _) (fun _ hk => op_and rfl rfl hk) ?_)
      refine Rg_op rfl (op_neq rfl rfl ?_)
      refine Rg_nil ?_
      refine Wp_cond rfl (fun hc106 => ?_) (fun hc106 => ?_)
      ·
       replace hm := bif_t hm hc106
       refine Wp_seq ?_
       clear f102
       refine Wp_region ?_
       refine Rg_op rfl (op_move (v := (Value.int .i64 n_1)) rfl ?_)
       refine Rg_op rfl (op_addw rfl rfl ?_)
       refine Rg_op rfl (op_move (v := (Value.slice a_y59 (fv0_.getD n_1.toNat default).length c_y59)) rfl ?_)
       replace hm := ck_some hm; obtain ⟨hc107, hm⟩ := hm
       refine Rg_op rfl (op_slice (q := rU8) (l := 0) (h := 4) (m := c_y59) ty41 ty5 rfl f_y59 rfl rfl (bndI rfl (by omega)) rfl (by decide) (by omega) (by omega) (by have h_ : (fv0_.getD n_1.toNat default).length ≤ c_y59 := f_y59.le; omega) (by have h_ : (fv0_.getD n_1.toNat default).length ≤ c_y59 := f_y59.le; omega) ?_)
       intro a108 f109
       replace hm := bd hm; obtain ⟨get_1, hv110, hm⟩ := hm
       refine Rg_op rfl (op_call Try.call60 (c60_journal_get (b := (((fv0_.getD n_1.toNat default).drop 0).take (4 - 0))) hs94.ltw f109 hv110) rfl ?_)
       rintro v111 w112 ⟨hx113, h114⟩
       have hs115 := hs94.call hx113
       have p116 := Step.ext (O := ks [(k97, o98)] Oz66) hx113
       clear hx113
       replace f_fv0_ := f_fv0_.step p116; replace f_y59 := f_y59.step p116; replace f99 := f99.step p116; replace f109 := f109.step p116; replace ch20 := ch20.trans p116; replace ch45 := ch45.trans p116; clear p116 hs94
       obtain ⟨rfl, r_y117⟩ := h114
       refine Rg_op rfl (op_assign (v := (Value.int .i64 (IntKind.wrap .i64 (n_1 + 1)))) rfl ?_)
       refine Rg_op rfl (op_assign (v := (Value.int .u64 get_1)) rfl ?_)
       refine Rg_nil ?_
       refine Wp_seq ?_
       refine Wp_seq ?_
       clear f_y59 f109
       refine Wp_reset2 [3, 4, 5, 6, 7, 9, 10, 11, 12, 13, 14, 15, 16, 17, 18, 19, 20, 21, 22, 23, 24, 25, 26, 27, 28, 29, 30, 31, 32, 33, 34, 35, 36, 37, 38, 39, 40, 41, 42, 43, 44, 45, 46, 47, 48, 49, 50, 51, 52, 53, 54, 55, 56, 57, 58, 59, 60, 61, 62, 63, 64, 65, 66, 67, 68, 69, 70, 71, 72, 73, 74, 75, 76] [] (updL (mix [3, 4, 5, 6, 7, 8, 9, 10, 11, 12, 13, 14, 15, 16, 17, 18, 19, 20, 21, 22, 23, 24, 25, 26, 27, 28, 29, 30, 31, 32, 33, 34, 35, 36, 37, 38, 39, 40, 41, 42, 43, 44, 45, 46, 47, 48, 49, 50, 51, 52, 53, 54, 55, 56, 57, 58, 59, 60, 61, 62, 63, 64, 65, 66, 67, 68, 69, 70, 71, 72, 73, 74, 75, 76] [] ξ33 (updL ⟨ξ10, []⟩ [(0, (Value.func (.yield l) #[] #[])), (1, (Value.pointer (some p_fv0_))), (3, (Value.int .i64 0)), (4, (Value.int .u64 0))])) [(3, (Value.int .i64 at_1)), (4, (Value.int .u64 last_1)), (5, (Value.slice none 0 0)), (6, (Value.int .i64 at_1))]) [(3, (Value.int .i64 (IntKind.wrap .i64 (n_1 + 1)))), (4, (Value.int .u64 get_1)), (5, (Value.slice a95 (b_1 ++ (((fv0_.getD n_1.toNat default).drop 12).take ((IntKind.wrap .i64 (12 + (((fv0_.getD n_1.toNat default).getD 11 default).toNat : Int))).toNat - 12))).length c96))] (by repeat (first | with_reducible exact Out.refl _ _ | refine Out.upd ?_ rfl | refine Out.updL ?_ rfl | refine Out.mix' ?_ rfl | exact Out.refl _ _)) rfl ⟨rfl, rfl, rfl, trivial⟩ fun ξ118 => ?_
       refine Wp_region ?_
       refine Rg_op rfl (op_move (v := (Value.func (.yield l) #[] #[])) rfl ?_)
       refine Rg_op rfl (op_move (v := (Value.int .i64 (IntKind.wrap .i64 (n_1 + 1)))) rfl ?_)
       refine Rg_op rfl (op_move (v := (Value.slice a95 (b_1 ++ (((fv0_.getD n_1.toNat default).drop 12).take ((IntKind.wrap .i64 (12 + (((fv0_.getD n_1.toNat default).getD 11 default).toNat : Int))).toNat - 12))).length c96)) rfl ?_)
       obtain ⟨hs120, p121, f119⟩ := Gs.publish (i := 0) hs115 rfl f99
       replace f_fv0_ := f_fv0_.step p121; replace ch20 := ch20.trans p121; replace ch45 := ch45.trans p121; clear p121 hs115
       replace hm := yl_elim hm; obtain ⟨xr122, hm, hL123⟩ := hm
       rw [hL123] at hL68
       refine Rg_op rfl (op_yield (pre := pre63) (a := ((IntKind.wrap .i64 (n_1 + 1)), (b_1 ++ (((fv0_.getD n_1.toNat default).drop 12).take ((IntKind.wrap .i64 (12 + (((fv0_.getD n_1.toNat default).getD 11 default).toNat : Int))).toNat - 12))))) rfl rfl hY hJ hI67 hs120 ⟨xr122, by rw [hL68]; simp⟩ (show (enc2 (vI .i64) (vC (rSl rU8))) _ _ _ _ from ⟨_, _, rfl, ⟨rfl, (inK_wrap .i64 _)⟩, (mkC (mk_sl f119))⟩) ?_ ?_)
       ·
        intro w124 O125 hs126 p127 hI128
        replace f_fv0_ := f_fv0_.step p127; replace f119 := f119.step p127; replace ch20 := ch20.trans p127; replace ch45 := ch45.trans p127; clear p127 hs120
        have hL129 : L = (pre63 ++ [((IntKind.wrap .i64 (n_1 + 1)), (b_1 ++ (((fv0_.getD n_1.toNat default).drop 12).take ((IntKind.wrap .i64 (12 + (((fv0_.getD n_1.toNat default).getD 11 default).toNat : Int))).toNat - 12))))]) ++ xr122 := by rw [hL68]; simp
        refine Rg_op rfl (op_not rfl ?_)
        refine Rg_nil ?_
        refine Wp_cond_f rfl ?_
        refine Wp_skip ?_
        refine Wp_exit ?_
        exact hK13 _ _ ⟨(IntKind.wrap .i64 (n_1 + 1)), get_1, xr122, (pre63 ++ [((IntKind.wrap .i64 (n_1 + 1)), (b_1 ++ (((fv0_.getD n_1.toNat default).drop 12).take ((IntKind.wrap .i64 (12 + (((fv0_.getD n_1.toNat default).getD 11 default).toNat : Int))).toNat - 12))))]), w124, (List.filterMap Prod.fst []), O125, _, rfl, ⟨(by repeat (first | with_reducible exact Out.refl _ _ | refine Out.upd ?_ rfl | refine Out.updL ?_ rfl | refine Out.mix' ?_ rfl | exact Out.refl _ _)), rfl, rfl, rfl, trivial⟩, ch20, hs126, (inK_wrap .i64 _), r_y117, hI128, hL129, jnE2 hsf12 hm⟩
       ·
        intro w130 O131 hs132 hI134
        refine Rg_op rfl (op_not rfl ?_)
        refine Rg_nil ?_
        refine Wp_cond_t rfl ?_
        refine Wp_ret ?_
        exact ⟨_, (show Closes [] _ _ from rfl), [], trivial, _, .inr ⟨_, hI134.fin hJx hs132⟩⟩
      ·
       replace hm := bif_f hm hc106
       refine Wp_skip ?_
       clear f_y59 f102
       refine Wp_region ?_
       refine Rg_op rfl (op_move (v := (Value.int .i64 n_1)) rfl ?_)
       refine Rg_op rfl (op_addw rfl rfl ?_)
       refine Rg_op rfl (op_assign (v := (Value.int .i64 (IntKind.wrap .i64 (n_1 + 1)))) rfl ?_)
       refine Rg_nil ?_
       exact hK36 _ _ ⟨at_2, last_2, (b_1 ++ (((fv0_.getD n_1.toNat default).drop 12).take ((IntKind.wrap .i64 (12 + (((fv0_.getD n_1.toNat default).getD 11 default).toNat : Int))).toNat - 12))), (IntKind.wrap .i64 (n_1 + 1)), a95, c96, k97, o98, xr62, pre63, wz64, Kz65, Oz66, _, rfl, ⟨(by repeat (first | with_reducible exact Out.refl _ _ | refine Out.upd ?_ rfl | refine Out.updL ?_ rfl | refine Out.mix' ?_ rfl | exact Out.refl _ _)), rfl, rfl, rfl, rfl, rfl, trivial⟩, ch45, hs94, r_y21, r_y22, f99, (inK_wrap .i64 _), hI67, hL68, jnE4 hsf35 hm⟩
    ·
     intro K71 hK71
     have ch135 := Step.refl (ks [(k_g24, o_g24)] Oz30) w40
     clear f_y53 f56
     refine Wp_drawR (g0 := []) (m := 32) (fl := []) (TS_inv hs41) rfl (.inl rfl) rfl (by decide +kernel) ?_  -- 6
     refine Dw_eq (Value.slice a_y59 (fv0_.getD n_1.toNat default).length c_y59) (fun ρ136 w137 g hle hi ht => ?_) ?_
     ·
      obtain ⟨-, hst, -⟩ := hle
      refine StepOp_plain (op_move (v := (Value.slice a_y59 (fv0_.getD n_1.toNat default).length c_y59)) (ht 7 rfl) ?_)
      exact Goes.same hi rfl
     refine Dw_eq (Value.int .i64 n_1) (fun ρ139 w140 g hle hi ht => ?_) ?_
     ·
      obtain ⟨-, hst, -⟩ := hle
      refine StepOp_plain (op_move (v := (Value.int .i64 n_1)) (ht 6 rfl) ?_)
      exact Goes.same hi rfl
     replace hm := bd hm; obtain ⟨good_1, hv145, hm⟩ := hm
     refine Dw_op (VD Oz30 [(k_g24, o_g24)] vB good_1) (VD.stab _ _) (fun ρ142 w143 g hle hi ht => ?_) ?_
     ·
      obtain ⟨-, hst, -⟩ := hle
      replace f_y59 := f_y59.step hst
      refine StepOp_plain (op_call Try.call70 (c70_journal_good (O := ks (ents g ++ [(k_g24, o_g24)]) Oz30) (s := (fv0_.getD n_1.toNat default)) (number := n_1) hi.ltw f_y59 r_y25 hv145) (by simp only [List.map, Array.toList, (show ev _ (.tmp 19) = _ from (ht 19 rfl)), (show ev _ (.tmp 20) = _ from (ht 20 rfl))] <;> rfl) ?_)
      rintro v146 w147 ⟨hx148, h149⟩
      exact Goes.call hi hx148 h149
     refine Dw_eq (Value.bool (!good_1)) (fun ρ151 w152 g hle hi ht => ?_) ?_
     ·
      obtain ⟨-, hst, -⟩ := hle
      have h154 : Vr.vd vB _ _ _ _ := ht 21 rfl
      have q155 : _ = (Value.bool good_1) := h154
      refine StepOp_plain (op_not q155 ?_)
      exact Goes.same hi rfl
     refine Dw_opB (!good_1) (fun ρ157 w158 g hle hi ht => ?_) (fun hg160 => ?_) (fun hg160 => ?_)
     ·
      obtain ⟨-, hst, -⟩ := hle
      refine StepOp_plain (op_move (v := (Value.bool (!good_1))) (ht 22 rfl) ?_)
      exact Goes.same hi rfl
     ·
      replace hm := bif_t hm hg160
      refine Dw_skip (fun _ _ _ ht => wanted_x rfl (ht 23 rfl) rfl) ?_
      refine Dw_skip (fun _ _ _ ht => wanted_x rfl (ht 23 rfl) rfl) ?_
      refine Dw_skip (fun _ _ _ ht => wanted_x rfl (ht 23 rfl) rfl) ?_
      refine Dw_skip (fun _ _ _ ht => wanted_x rfl (ht 23 rfl) rfl) ?_
      refine Dw_skip (fun _ _ _ ht => wanted_x rfl (ht 23 rfl) rfl) ?_
      refine Dw_skip (fun _ _ _ ht => wanted_x rfl (ht 23 rfl) rfl) ?_
      refine Dw_skip (fun _ _ _ ht => wanted_x rfl (ht 23 rfl) rfl) ?_
      refine Dw_skip (fun _ _ _ ht => wanted_x rfl (ht 23 rfl) rfl) ?_
      refine Dw_skip (fun _ _ _ ht => wanted_x rfl (ht 23 rfl) rfl) ?_
      refine Dw_eq (Value.bool true) (fun ρ161 w162 g hle hi ht => ?_) ?_
      ·
       obtain ⟨-, hst, -⟩ := hle
       refine StepOp_plain (op_pick_t (v := (Value.bool true)) (ht 23 rfl) rfl ?_)
       exact Goes.same hi rfl
      refine Dw_eq (Value.bool true) (fun ρ164 w165 g hle hi ht => ?_) ?_
      ·
       obtain ⟨-, hst, -⟩ := hle
       refine StepOp_plain (op_move (v := (Value.bool true)) (ht 33 rfl) ?_)
       exact Goes.same hi rfl
      refine Dw_skip (fun _ _ _ ht => wanted_x rfl (ht 34 rfl) rfl) ?_
      refine Dw_skip (fun _ _ _ ht => wanted_x rfl (ht 34 rfl) rfl) ?_
      refine Dw_skip (fun _ _ _ ht => wanted_x rfl (ht 34 rfl) rfl) ?_
      refine Dw_skip (fun _ _ _ ht => wanted_x rfl (ht 34 rfl) rfl) ?_
      refine Dw_skip (fun _ _ _ ht => wanted_x rfl (ht 34 rfl) rfl) ?_
      refine Dw_skip (fun _ _ _ ht => wanted_x rfl (ht 34 rfl) rfl) ?_
      refine Dw_skip (fun _ _ _ ht => wanted_x rfl (ht 34 rfl) rfl) ?_
      refine Dw_skip (fun _ _ _ ht => wanted_x rfl (ht 34 rfl) rfl) ?_
      refine Dw_skip (fun _ _ _ ht => wanted_x rfl (ht 34 rfl) rfl) ?_
      refine Dw_skip (fun _ _ _ ht => wanted_x rfl (ht 34 rfl) rfl) ?_
      refine Dw_eq (Value.bool true) (fun ρ167 w168 g hle hi ht => ?_) ?_
      ·
       obtain ⟨-, hst, -⟩ := hle
       refine StepOp_plain (op_pick_t (v := (Value.bool true)) (ht 34 rfl) rfl ?_)
       exact Goes.same hi rfl
      refine Dw_eq (Value.bool true) (fun ρ170 w171 g hle hi ht => ?_) ?_
      ·
       obtain ⟨-, hst, -⟩ := hle
       refine StepOp_plain (op_move (v := (Value.bool true)) (ht 45 rfl) ?_)
       exact Goes.same hi rfl
      refine Dw_skip (fun _ _ _ ht => wanted_x rfl (ht 46 rfl) rfl) ?_
      refine Dw_skip (fun _ _ _ ht => wanted_x rfl (ht 46 rfl) rfl) ?_
      refine Dw_skip (fun _ _ _ ht => wanted_x rfl (ht 46 rfl) rfl) ?_
      refine Dw_skip (fun _ _ _ ht => wanted_x rfl (ht 46 rfl) rfl) ?_
      refine Dw_nil fun w177 g178 hl179 hi180 => ?_
      obtain ⟨-, hst181, -⟩ := hl179
      obtain ⟨hs183, p182⟩ := Step.nx hi180
      rintro _ rfl
      rintro _ rfl
      rintro _ rfl
      rintro _ rfl
      rintro _ rfl
      rintro _ rfl
      rintro _ rfl
      rintro _ rfl
      rintro _ rfl
      rintro _ rfl
      rintro _ rfl
      rintro _ rfl
      rintro _ rfl
      rintro _ rfl
      rintro _ rfl
      rintro _ rfl
      rintro _ rfl
      rintro _ rfl
      rintro _ rfl
      rintro _ rfl
      rintro _ rfl
      rintro _ rfl
      rintro _ rfl
      rintro _ rfl
      rintro _ rfl
      rintro _ rfl
      rintro _ rfl
      rintro _ rfl
      rintro _ rfl
      rintro v184 h185
      replace h185 : Vr.vd vB _ _ _ _ := h185
      obtain rfl := h185
      rintro _ rfl
      rintro _ rfl
      have p187 : Step (ks [(k_g24, o_g24)] Oz30) w40 (ks [(k_g24, o_g24)] Oz30) w177 := hst181.trans p182
      replace f_fv0_ := f_fv0_.step p187; replace f_g24 := f_g24.step p187; replace f_y59 := f_y59.step p187; replace ch20 := ch20.trans p187; replace ch45 := ch45.trans p187; replace ch135 := ch135.trans p187; clear p187 hs41
      refine Rg_opx rfl (asB_ne rfl rfl) rfl ?_
      refine Rg_op rfl (op_pick_t (v := (Value.bool true)) rfl rfl ?_)
      refine Rg_nil ?_
      exact hK71 _ _ ⟨true, xr26, pre27, wz28, Kz29, Oz30, _, rfl, ⟨(by repeat (first | with_reducible exact Out.refl _ _ | refine Out.upd ?_ rfl | refine Out.updL ?_ rfl | refine Out.mix' ?_ rfl | exact Out.refl _ _)), rfl, rfl, trivial⟩, ch135, hs183, hI31, hL32, hm⟩
     ·
      replace hm := bif_f hm hg160
      refine Dw_eq (Value.slice a_y59 (fv0_.getD n_1.toNat default).length c_y59) (fun ρ188 w189 g hle hi ht => ?_) ?_
      ·
       obtain ⟨-, hst, -⟩ := hle
       refine StepOp_g rfl (ht 23 rfl) (op_move (v := (Value.slice a_y59 (fv0_.getD n_1.toNat default).length c_y59)) (ht 7 rfl) ?_)
       exact Goes.same hi rfl
      replace hm := ck_some hm; obtain ⟨hc194, hm⟩ := hm
      refine Dw_op (VP Oz30 [(k_g24, o_g24)] rU8 ((fv0_.getD n_1.toNat default).getD 10 default)) (VP.stab _ _) (fun ρ191 w192 g hle hi ht => ?_) ?_
      ·
       obtain ⟨-, hst, -⟩ := hle
       replace f_y59 := f_y59.step hst
       refine StepOp_g rfl (ht 23 rfl) (op_indexAddr (q := rU8) ty41 ty5 (ht 24 rfl) rfl f_y59 rfl hc194.1 hc194.2 ?_)
       intro p195 f196
       replace f196 : PtR rU8 _ _ p195 ((fv0_.getD n_1.toNat default).getD 10 default) := f196
       exact Goes.same hi ⟨_, rfl, f196⟩
      refine Dw_eq (Value.int .u8 (((fv0_.getD n_1.toNat default).getD 10 default).toNat : Int)) (fun ρ197 w198 g hle hi ht => ?_) ?_
      ·
       obtain ⟨-, hst, -⟩ := hle
       obtain ⟨p200, q201, f202⟩ := ht 25 rfl
       refine StepOp_g rfl (ht 23 rfl) (op_loadP ty5 q201 f202 rfl ?_)
       intro v203 h204
       obtain rfl := un_u8 h204
       exact Goes.same hi rfl
      refine Dw_eq (Value.int .u8 ((UInt8.ofNat (Go.bits .and .u8 (((fv0_.getD n_1.toNat default).getD 10 default).toNat : Int) 1).toNat).toNat : Int)) (fun ρ206 w207 g hle hi ht => ?_) ?_
      ·
       obtain ⟨-, hst, -⟩ := hle
       refine StepOp_g rfl (ht 23 rfl) (run1_u8 (e := (Go.bits .and .u8 (((fv0_.getD n_1.toNat default).getD 10 default).toNat : Int) 1)) (inK_bits .and .u8 _ _) (fun _ hk => op_and (ht 26 rfl) rfl hk) ?_)
       exact Goes.same hi rfl
      refine Dw_eq (Value.bool (decide (((UInt8.ofNat (Go.bits .and .u8 (((fv0_.getD n_1.toNat default).getD 10 default).toNat : Int) 1).toNat).toNat : Int) ≠ 0))) (fun ρ209 w210 g hle hi ht => ?_) ?_
      ·
       obtain ⟨-, hst, -⟩ := hle
       refine StepOp_g rfl (ht 23 rfl) (op_neq (ht 27 rfl) rfl ?_)
       exact Goes.same hi rfl
      refine Dw_eq (Value.int .i64 n_1) (fun ρ212 w213 g hle hi ht => ?_) ?_
      ·
       obtain ⟨-, hst, -⟩ := hle
       refine StepOp_g rfl (ht 23 rfl) (op_move (v := (Value.int .i64 n_1)) (ht 6 rfl) ?_)
       exact Goes.same hi rfl
      refine Dw_eq (Value.int .i64 at_2) (fun ρ215 w216 g hle hi ht => ?_) ?_
      ·
       obtain ⟨-, hst, -⟩ := hle
       refine StepOp_g rfl (ht 23 rfl) (op_move (v := (Value.int .i64 at_2)) (ht 3 rfl) ?_)
       exact Goes.same hi rfl
      refine Dw_eq (Value.bool (decide (n_1 = at_2))) (fun ρ218 w219 g hle hi ht => ?_) ?_
      ·
       obtain ⟨-, hst, -⟩ := hle
       refine StepOp_g rfl (ht 23 rfl) (op_eql (ht 29 rfl) (ht 30 rfl) ?_)
       exact Goes.same hi rfl
      refine Dw_eq (Value.bool (!((decide (((UInt8.ofNat (Go.bits .and .u8 (((fv0_.getD n_1.toNat default).getD 10 default).toNat : Int) 1).toNat).toNat : Int) ≠ 0)) == (decide (n_1 = at_2))))) (fun ρ221 w222 g hle hi ht => ?_) ?_
      ·
       obtain ⟨-, hst, -⟩ := hle
       refine StepOp_g rfl (ht 23 rfl) (op_neqb Try.underlying4 (ht 28 rfl) (ht 31 rfl) ?_)
       exact Goes.same hi rfl
      refine Dw_eq (Value.bool (!((decide (((UInt8.ofNat (Go.bits .and .u8 (((fv0_.getD n_1.toNat default).getD 10 default).toNat : Int) 1).toNat).toNat : Int) ≠ 0)) == (decide (n_1 = at_2))))) (fun ρ224 w225 g hle hi ht => ?_) ?_
      ·
       obtain ⟨-, hst, -⟩ := hle
       refine StepOp_plain (op_pick_f (v := (Value.bool (!((decide (((UInt8.ofNat (Go.bits .and .u8 (((fv0_.getD n_1.toNat default).getD 10 default).toNat : Int) 1).toNat).toNat : Int) ≠ 0)) == (decide (n_1 = at_2)))))) (ht 23 rfl) (ht 32 rfl) ?_)
       exact Goes.same hi rfl
      refine Dw_opB (!((decide (((UInt8.ofNat (Go.bits .and .u8 (((fv0_.getD n_1.toNat default).getD 10 default).toNat : Int) 1).toNat).toNat : Int) ≠ 0)) == (decide (n_1 = at_2)))) (fun ρ227 w228 g hle hi ht => ?_) (fun hg230 => ?_) (fun hg230 => ?_)
      ·
       obtain ⟨-, hst, -⟩ := hle
       refine StepOp_plain (op_move (v := (Value.bool (!((decide (((UInt8.ofNat (Go.bits .and .u8 (((fv0_.getD n_1.toNat default).getD 10 default).toNat : Int) 1).toNat).toNat : Int) ≠ 0)) == (decide (n_1 = at_2)))))) (ht 33 rfl) ?_)
       exact Goes.same hi rfl
      ·
       replace hm := bif_t hm hg230
       refine Dw_skip (fun _ _ _ ht => wanted_x rfl (ht 34 rfl) rfl) ?_
       refine Dw_skip (fun _ _ _ ht => wanted_x rfl (ht 34 rfl) rfl) ?_
       refine Dw_skip (fun _ _ _ ht => wanted_x rfl (ht 34 rfl) rfl) ?_
       refine Dw_skip (fun _ _ _ ht => wanted_x rfl (ht 34 rfl) rfl) ?_
       refine Dw_skip (fun _ _ _ ht => wanted_x rfl (ht 34 rfl) rfl) ?_
       refine Dw_skip (fun _ _ _ ht => wanted_x rfl (ht 34 rfl) rfl) ?_
       refine Dw_skip (fun _ _ _ ht => wanted_x rfl (ht 34 rfl) rfl) ?_
       refine Dw_skip (fun _ _ _ ht => wanted_x rfl (ht 34 rfl) rfl) ?_
       refine Dw_skip (fun _ _ _ ht => wanted_x rfl (ht 34 rfl) rfl) ?_
       refine Dw_skip (fun _ _ _ ht => wanted_x rfl (ht 34 rfl) rfl) ?_
       refine Dw_eq (Value.bool true) (fun ρ231 w232 g hle hi ht => ?_) ?_
       ·
        obtain ⟨-, hst, -⟩ := hle
        refine StepOp_plain (op_pick_t (v := (Value.bool true)) (ht 34 rfl) rfl ?_)
        exact Goes.same hi rfl
       refine Dw_eq (Value.bool true) (fun ρ234 w235 g hle hi ht => ?_) ?_
       ·
        obtain ⟨-, hst, -⟩ := hle
        refine StepOp_plain (op_move (v := (Value.bool true)) (ht 45 rfl) ?_)
        exact Goes.same hi rfl
       refine Dw_skip (fun _ _ _ ht => wanted_x rfl (ht 46 rfl) rfl) ?_
       refine Dw_skip (fun _ _ _ ht => wanted_x rfl (ht 46 rfl) rfl) ?_
       refine Dw_skip (fun _ _ _ ht => wanted_x rfl (ht 46 rfl) rfl) ?_
       refine Dw_skip (fun _ _ _ ht => wanted_x rfl (ht 46 rfl) rfl) ?_
       refine Dw_nil fun w241 g242 hl243 hi244 => ?_
       obtain ⟨-, hst245, -⟩ := hl243
       obtain ⟨hs247, p246⟩ := Step.nx hi244
       rintro _ rfl
       rintro _ rfl
       rintro _ rfl
       rintro _ rfl
       rintro _ rfl
       rintro _ rfl
       rintro _ rfl
       rintro _ rfl
       rintro _ rfl
       rintro _ rfl
       rintro _ rfl
       rintro _ rfl
       rintro _ rfl
       rintro _ rfl
       rintro _ rfl
       rintro _ rfl
       rintro _ rfl
       rintro _ rfl
       rintro _ rfl
       rintro _ rfl
       rintro _ rfl
       rintro _ rfl
       rintro _ rfl
       rintro _ rfl
       rintro _ rfl
       rintro _ ⟨p248, rfl, f249⟩
       rintro _ rfl
       rintro _ rfl
       rintro _ rfl
       rintro v250 h251
       replace h251 : Vr.vd vB _ _ _ _ := h251
       obtain rfl := h251
       rintro _ rfl
       rintro _ rfl
       have p253 : Step (ks [(k_g24, o_g24)] Oz30) w40 (ks [(k_g24, o_g24)] Oz30) w241 := hst245.trans p246
       replace f249 := f249.step p246; replace f_fv0_ := f_fv0_.step p253; replace f_g24 := f_g24.step p253; replace f_y59 := f_y59.step p253; replace ch20 := ch20.trans p253; replace ch45 := ch45.trans p253; replace ch135 := ch135.trans p253; clear p253 hs41
       refine Rg_opx rfl (asB_ne rfl rfl) rfl ?_
       refine Rg_op rfl (op_pick_t (v := (Value.bool true)) rfl rfl ?_)
       refine Rg_nil ?_
       exact hK71 _ _ ⟨true, xr26, pre27, wz28, Kz29, Oz30, _, rfl, ⟨(by repeat (first | with_reducible exact Out.refl _ _ | refine Out.upd ?_ rfl | refine Out.updL ?_ rfl | refine Out.mix' ?_ rfl | exact Out.refl _ _)), rfl, rfl, trivial⟩, ch135, hs247, hI31, hL32, hm⟩
      ·
       replace hm := bif_f hm hg230
       refine Dw_eq (Value.slice a_y59 (fv0_.getD n_1.toNat default).length c_y59) (fun ρ254 w255 g hle hi ht => ?_) ?_
       ·
        obtain ⟨-, hst, -⟩ := hle
        refine StepOp_g rfl (ht 34 rfl) (op_move (v := (Value.slice a_y59 (fv0_.getD n_1.toNat default).length c_y59)) (ht 7 rfl) ?_)
        exact Goes.same hi rfl
       replace hm := ck_some hm; obtain ⟨hc260, hm⟩ := hm
       refine Dw_op (VD Oz30 [(k_g24, o_g24)] (vC (rSl rU8)) (((fv0_.getD n_1.toNat default).drop 0).take (4 - 0))) (VD.stab _ _) (fun ρ257 w258 g hle hi ht => ?_) ?_
       ·
        obtain ⟨-, hst, -⟩ := hle
        replace f_y59 := f_y59.step hst
        refine StepOp_g rfl (ht 34 rfl) (op_slice (q := rU8) (l := 0) (h := 4) (m := c_y59) ty41 ty5 (ht 35 rfl) f_y59 rfl rfl (bndI rfl (by omega)) rfl (by decide) (by omega) (by omega) (by have h_ : (fv0_.getD n_1.toNat default).length ≤ c_y59 := f_y59.le; omega) (by have h_ : (fv0_.getD n_1.toNat default).length ≤ c_y59 := f_y59.le; omega) ?_)
        intro a261 f262
        exact Goes.same hi (show Vr.vd (vC (rSl rU8)) _ _ _ _ from (mkC (mk_sl f262)))
       replace hm := bd hm; obtain ⟨get_2, hv269, hm⟩ := hm
       refine Dw_op (VD Oz30 [(k_g24, o_g24)] (vI .u64) get_2) (VD.stab _ _) (fun ρ263 w264 g hle hi ht => ?_) ?_
       ·
        obtain ⟨-, hst, -⟩ := hle
        have h266 : Vr.vd (vC (rSl rU8)) _ _ _ _ := ht 36 rfl
        obtain ⟨a_y268, c_y268, q267, f_y268⟩ := un_sl h266
        refine StepOp_g rfl (ht 34 rfl) (op_call Try.call60 (c60_journal_get (O := ks (ents g ++ [(k_g24, o_g24)]) Oz30) (b := (((fv0_.getD n_1.toNat default).drop 0).take (4 - 0))) hi.ltw f_y268 hv269) (by simp only [List.map, Array.toList, (show ev _ (.tmp 36) = _ from q267)] <;> rfl) ?_)
        rintro v270 w271 ⟨hx272, h273⟩
        exact Goes.call hi hx272 h273
       refine Dw_op (VD Oz30 [(k_g24, o_g24)] (vC (rSl (rSl rU8))) fv0_) (VD.stab _ _) (fun ρ275 w276 g hle hi ht => ?_) ?_
       ·
        obtain ⟨-, hst, -⟩ := hle
        replace f_fv0_ := f_fv0_.step hst
        refine StepOp_g rfl (ht 34 rfl) (op_loadP ty22 (ht 1 rfl) f_fv0_ rfl ?_)
        intro v278 h279
        obtain ⟨a_y280, c_y280, rfl, f_y280⟩ := un_sl h279
        exact Goes.same hi (show Vr.vd (vC (rSl (rSl rU8))) _ _ _ _ from (mkC (mk_sl f_y280)))
       refine Dw_eq (Value.int .i64 at_2) (fun ρ281 w282 g hle hi ht => ?_) ?_
       ·
        obtain ⟨-, hst, -⟩ := hle
        refine StepOp_g rfl (ht 34 rfl) (op_move (v := (Value.int .i64 at_2)) (ht 3 rfl) ?_)
        exact Goes.same hi rfl
       replace hm := ck_some hm; obtain ⟨hc290, hm⟩ := hm
       refine Dw_op (VP Oz30 [(k_g24, o_g24)] (rSl rU8) (fv0_.getD at_2.toNat default)) (VP.stab _ _) (fun ρ284 w285 g hle hi ht => ?_) ?_
       ·
        obtain ⟨-, hst, -⟩ := hle
        have h287 : Vr.vd (vC (rSl (rSl rU8))) _ _ _ _ := ht 38 rfl
        obtain ⟨a_y289, c_y289, q288, f_y289⟩ := un_sl h287
        refine StepOp_g rfl (ht 34 rfl) (op_indexAddr (q := (rSl rU8)) ty22 ty41 q288 (ht 39 rfl) f_y289 rfl hc290.1 hc290.2 ?_)
        intro p291 f292
        exact Goes.same hi ⟨_, rfl, f292⟩
       refine Dw_op (VD Oz30 [(k_g24, o_g24)] (vC (rSl rU8)) (fv0_.getD at_2.toNat default)) (VD.stab _ _) (fun ρ293 w294 g hle hi ht => ?_) ?_
       ·
        obtain ⟨-, hst, -⟩ := hle
        obtain ⟨p296, q297, f298⟩ := ht 40 rfl
        refine StepOp_g rfl (ht 34 rfl) (op_loadP ty41 q297 f298 rfl ?_)
        intro v299 h300
        obtain ⟨a_y301, c_y301, rfl, f_y301⟩ := un_sl h300
        exact Goes.same hi (show Vr.vd (vC (rSl rU8)) _ _ _ _ from (mkC (mk_sl f_y301)))
       replace hm := ck_some hm; obtain ⟨hc308, hm⟩ := hm
       refine Dw_op (VD Oz30 [(k_g24, o_g24)] (vC (rSl rU8)) (((fv0_.getD at_2.toNat default).drop 0).take (4 - 0))) (VD.stab _ _) (fun ρ302 w303 g hle hi ht => ?_) ?_
       ·
        obtain ⟨-, hst, -⟩ := hle
        have h305 : Vr.vd (vC (rSl rU8)) _ _ _ _ := ht 41 rfl
        obtain ⟨a_y307, c_y307, q306, f_y307⟩ := un_sl h305
        refine StepOp_g rfl (ht 34 rfl) (op_slice (q := rU8) (l := 0) (h := 4) (m := c_y307) ty41 ty5 q306 f_y307 rfl rfl (bndI rfl (by omega)) rfl (by decide) (by omega) (by omega) (by have h_ : (fv0_.getD at_2.toNat default).length ≤ c_y307 := f_y307.le; omega) (by have h_ : (fv0_.getD at_2.toNat default).length ≤ c_y307 := f_y307.le; omega) ?_)
        intro a309 f310
        exact Goes.same hi (show Vr.vd (vC (rSl rU8)) _ _ _ _ from (mkC (mk_sl f310)))
       replace hm := bd hm; obtain ⟨get_3, hv317, hm⟩ := hm
       refine Dw_op (VD Oz30 [(k_g24, o_g24)] (vI .u64) get_3) (VD.stab _ _) (fun ρ311 w312 g hle hi ht => ?_) ?_
       ·
        obtain ⟨-, hst, -⟩ := hle
        have h314 : Vr.vd (vC (rSl rU8)) _ _ _ _ := ht 42 rfl
        obtain ⟨a_y316, c_y316, q315, f_y316⟩ := un_sl h314
        refine StepOp_g rfl (ht 34 rfl) (op_call Try.call60 (c60_journal_get (O := ks (ents g ++ [(k_g24, o_g24)]) Oz30) (b := (((fv0_.getD at_2.toNat default).drop 0).take (4 - 0))) hi.ltw f_y316 hv317) (by simp only [List.map, Array.toList, (show ev _ (.tmp 42) = _ from q315)] <;> rfl) ?_)
        rintro v318 w319 ⟨hx320, h321⟩
        exact Goes.call hi hx320 h321
       refine Dw_eq (Value.bool (decide (get_2 ≠ get_3))) (fun ρ323 w324 g hle hi ht => ?_) ?_
       ·
        obtain ⟨-, hst, -⟩ := hle
        have h326 : Vr.vd (vI .u64) _ _ _ _ := ht 43 rfl
        obtain ⟨q327, r_y328⟩ := h326
        have h329 : Vr.vd (vI .u64) _ _ _ _ := ht 37 rfl
        obtain ⟨q330, r_y331⟩ := h329
        refine StepOp_g rfl (ht 34 rfl) (op_neq q330 q327 ?_)
        exact Goes.same hi rfl
       refine Dw_eq (Value.bool (decide (get_2 ≠ get_3))) (fun ρ332 w333 g hle hi ht => ?_) ?_
       ·
        obtain ⟨-, hst, -⟩ := hle
        refine StepOp_plain (op_pick_f (v := (Value.bool (decide (get_2 ≠ get_3)))) (ht 34 rfl) (ht 44 rfl) ?_)
        exact Goes.same hi rfl
       refine Dw_opB (decide (get_2 ≠ get_3)) (fun ρ335 w336 g hle hi ht => ?_) (fun hg338 => ?_) (fun hg338 => ?_)
       ·
        obtain ⟨-, hst, -⟩ := hle
        refine StepOp_plain (op_move (v := (Value.bool (decide (get_2 ≠ get_3)))) (ht 45 rfl) ?_)
        exact Goes.same hi rfl
       ·
        replace hm := bif_t hm hg338
        refine Dw_skip (fun _ _ _ ht => wanted_x rfl (ht 46 rfl) rfl) ?_
        refine Dw_skip (fun _ _ _ ht => wanted_x rfl (ht 46 rfl) rfl) ?_
        refine Dw_skip (fun _ _ _ ht => wanted_x rfl (ht 46 rfl) rfl) ?_
        refine Dw_skip (fun _ _ _ ht => wanted_x rfl (ht 46 rfl) rfl) ?_
        refine Dw_nil fun w343 g344 hl345 hi346 => ?_
        obtain ⟨-, hst347, -⟩ := hl345
        obtain ⟨hs349, p348⟩ := Step.nx hi346
        rintro _ rfl
        rintro _ rfl
        rintro _ rfl
        rintro _ rfl
        rintro _ rfl
        rintro _ rfl
        rintro _ rfl
        rintro v350 h351
        replace h351 : Vr.vd (vI .u64) _ _ _ _ := h351
        obtain ⟨rfl, r_y352⟩ := h351
        rintro v353 h354
        replace h354 : Vr.vd (vC (rSl rU8)) _ _ _ _ := h354
        obtain ⟨a_y355, c_y355, rfl, f_y355⟩ := un_sl h354
        rintro v356 h357
        replace h357 : Vr.vd (vC (rSl rU8)) _ _ _ _ := h357
        obtain ⟨a_y358, c_y358, rfl, f_y358⟩ := un_sl h357
        rintro _ ⟨p359, rfl, f360⟩
        rintro _ rfl
        rintro v361 h362
        replace h362 : Vr.vd (vC (rSl (rSl rU8))) _ _ _ _ := h362
        obtain ⟨a_y363, c_y363, rfl, f_y363⟩ := un_sl h362
        rintro v364 h365
        replace h365 : Vr.vd (vI .u64) _ _ _ _ := h365
        obtain ⟨rfl, r_y366⟩ := h365
        rintro v367 h368
        replace h368 : Vr.vd (vC (rSl rU8)) _ _ _ _ := h368
        obtain ⟨a_y369, c_y369, rfl, f_y369⟩ := un_sl h368
        rintro _ rfl
        rintro _ rfl
        rintro _ rfl
        rintro _ rfl
        rintro _ rfl
        rintro _ rfl
        rintro _ rfl
        rintro _ rfl
        rintro _ rfl
        rintro _ rfl
        rintro _ ⟨p370, rfl, f371⟩
        rintro _ rfl
        rintro _ rfl
        rintro _ rfl
        rintro v372 h373
        replace h373 : Vr.vd vB _ _ _ _ := h373
        obtain rfl := h373
        rintro _ rfl
        rintro _ rfl
        have p375 : Step (ks [(k_g24, o_g24)] Oz30) w40 (ks [(k_g24, o_g24)] Oz30) w343 := hst347.trans p348
        replace f_y355 := f_y355.step p348; replace f_y358 := f_y358.step p348; replace f360 := f360.step p348; replace f_y363 := f_y363.step p348; replace f_y369 := f_y369.step p348; replace f371 := f371.step p348; replace f_fv0_ := f_fv0_.step p375; replace f_g24 := f_g24.step p375; replace f_y59 := f_y59.step p375; replace ch20 := ch20.trans p375; replace ch45 := ch45.trans p375; replace ch135 := ch135.trans p375; clear p375 hs41
        refine Rg_opx rfl (asB_ne rfl rfl) rfl ?_
        refine Rg_op rfl (op_pick_t (v := (Value.bool true)) rfl rfl ?_)
        refine Rg_nil ?_
        exact hK71 _ _ ⟨true, xr26, pre27, wz28, Kz29, Oz30, _, rfl, ⟨(by repeat (first | with_reducible exact Out.refl _ _ | refine Out.upd ?_ rfl | refine Out.updL ?_ rfl | refine Out.mix' ?_ rfl | exact Out.refl _ _)), rfl, rfl, trivial⟩, ch135, hs349, hI31, hL32, hm⟩
       ·
        replace hm := bif_f hm hg338
        refine Dw_eq (Value.slice a_y59 (fv0_.getD n_1.toNat default).length c_y59) (fun ρ376 w377 g hle hi ht => ?_) ?_
        ·
         obtain ⟨-, hst, -⟩ := hle
         refine StepOp_g rfl (ht 46 rfl) (op_move (v := (Value.slice a_y59 (fv0_.getD n_1.toNat default).length c_y59)) (ht 7 rfl) ?_)
         exact Goes.same hi rfl
        replace hm := ck_some hm; obtain ⟨hc382, hm⟩ := hm
        refine Dw_op (VD Oz30 [(k_g24, o_g24)] (vC (rSl rU8)) (((fv0_.getD n_1.toNat default).drop 0).take (4 - 0))) (VD.stab _ _) (fun ρ379 w380 g hle hi ht => ?_) ?_
        ·
         obtain ⟨-, hst, -⟩ := hle
         replace f_y59 := f_y59.step hst
         refine StepOp_g rfl (ht 46 rfl) (op_slice (q := rU8) (l := 0) (h := 4) (m := c_y59) ty41 ty5 (ht 47 rfl) f_y59 rfl rfl (bndI rfl (by omega)) rfl (by decide) (by omega) (by omega) (by have h_ : (fv0_.getD n_1.toNat default).length ≤ c_y59 := f_y59.le; omega) (by have h_ : (fv0_.getD n_1.toNat default).length ≤ c_y59 := f_y59.le; omega) ?_)
         intro a383 f384
         exact Goes.same hi (show Vr.vd (vC (rSl rU8)) _ _ _ _ from (mkC (mk_sl f384)))
        replace hm := bd hm; obtain ⟨get_4, hv391, hm⟩ := hm
        refine Dw_op (VD Oz30 [(k_g24, o_g24)] (vI .u64) get_4) (VD.stab _ _) (fun ρ385 w386 g hle hi ht => ?_) ?_
        ·
         obtain ⟨-, hst, -⟩ := hle
         have h388 : Vr.vd (vC (rSl rU8)) _ _ _ _ := ht 48 rfl
         obtain ⟨a_y390, c_y390, q389, f_y390⟩ := un_sl h388
         refine StepOp_g rfl (ht 46 rfl) (op_call Try.call60 (c60_journal_get (O := ks (ents g ++ [(k_g24, o_g24)]) Oz30) (b := (((fv0_.getD n_1.toNat default).drop 0).take (4 - 0))) hi.ltw f_y390 hv391) (by simp only [List.map, Array.toList, (show ev _ (.tmp 48) = _ from q389)] <;> rfl) ?_)
         rintro v392 w393 ⟨hx394, h395⟩
         exact Goes.call hi hx394 h395
        refine Dw_eq (Value.int .u64 last_2) (fun ρ397 w398 g hle hi ht => ?_) ?_
        ·
         obtain ⟨-, hst, -⟩ := hle
         refine StepOp_g rfl (ht 46 rfl) (op_move (v := (Value.int .u64 last_2)) (ht 4 rfl) ?_)
         exact Goes.same hi rfl
        refine Dw_nil fun w404 g405 hl406 hi407 => ?_
        obtain ⟨-, hst408, -⟩ := hl406
        obtain ⟨hs410, p409⟩ := Step.nx hi407
        rintro _ rfl
        rintro v411 h412
        replace h412 : Vr.vd (vI .u64) _ _ _ _ := h412
        obtain ⟨rfl, r_y413⟩ := h412
        rintro v414 h415
        replace h415 : Vr.vd (vC (rSl rU8)) _ _ _ _ := h415
        obtain ⟨a_y416, c_y416, rfl, f_y416⟩ := un_sl h415
        rintro _ rfl
        rintro _ rfl
        rintro _ rfl
        rintro _ rfl
        rintro v417 h418
        replace h418 : Vr.vd (vI .u64) _ _ _ _ := h418
        obtain ⟨rfl, r_y419⟩ := h418
        rintro v420 h421
        replace h421 : Vr.vd (vC (rSl rU8)) _ _ _ _ := h421
        obtain ⟨a_y422, c_y422, rfl, f_y422⟩ := un_sl h421
        rintro v423 h424
        replace h424 : Vr.vd (vC (rSl rU8)) _ _ _ _ := h424
        obtain ⟨a_y425, c_y425, rfl, f_y425⟩ := un_sl h424
        rintro _ ⟨p426, rfl, f427⟩
        rintro _ rfl
        rintro v428 h429
        replace h429 : Vr.vd (vC (rSl (rSl rU8))) _ _ _ _ := h429
        obtain ⟨a_y430, c_y430, rfl, f_y430⟩ := un_sl h429
        rintro v431 h432
        replace h432 : Vr.vd (vI .u64) _ _ _ _ := h432
        obtain ⟨rfl, r_y433⟩ := h432
        rintro v434 h435
        replace h435 : Vr.vd (vC (rSl rU8)) _ _ _ _ := h435
        obtain ⟨a_y436, c_y436, rfl, f_y436⟩ := un_sl h435
        rintro _ rfl
        rintro _ rfl
        rintro _ rfl
        rintro _ rfl
        rintro _ rfl
        rintro _ rfl
        rintro _ rfl
        rintro _ rfl
        rintro _ rfl
        rintro _ rfl
        rintro _ ⟨p437, rfl, f438⟩
        rintro _ rfl
        rintro _ rfl
        rintro _ rfl
        rintro v439 h440
        replace h440 : Vr.vd vB _ _ _ _ := h440
        obtain rfl := h440
        rintro _ rfl
        rintro _ rfl
        have p442 : Step (ks [(k_g24, o_g24)] Oz30) w40 (ks [(k_g24, o_g24)] Oz30) w404 := hst408.trans p409
        replace f_y416 := f_y416.step p409; replace f_y422 := f_y422.step p409; replace f_y425 := f_y425.step p409; replace f427 := f427.step p409; replace f_y430 := f_y430.step p409; replace f_y436 := f_y436.step p409; replace f438 := f438.step p409; replace f_fv0_ := f_fv0_.step p442; replace f_g24 := f_g24.step p442; replace f_y59 := f_y59.step p442; replace ch20 := ch20.trans p442; replace ch45 := ch45.trans p442; replace ch135 := ch135.trans p442; clear p442 hs41
        refine Rg_opg rfl rfl rfl (op_lss rfl rfl ?_)
        refine Rg_op rfl (op_pick_f (v := (Value.bool (decide (get_4 < last_2)))) rfl rfl ?_)
        refine Rg_nil ?_
        exact hK71 _ _ ⟨(decide (get_4 < last_2)), xr26, pre27, wz28, Kz29, Oz30, _, rfl, ⟨(by repeat (first | with_reducible exact Out.refl _ _ | refine Out.upd ?_ rfl | refine Out.updL ?_ rfl | refine Out.mix' ?_ rfl | exact Out.refl _ _)), rfl, rfl, trivial⟩, ch135, hs410, hI31, hL32, hm⟩
   ·
    replace hm := bif_f hm hc50
    refine Wp_exit ?_
    refine Wp_ret ?_
    have h443 := hI31.fin hJ hs41
    rw [← Option.some.inj hm, List.append_nil] at hL32; rw [← hL32] at h443
    exact ⟨_, (show Closes [] _ _ from rfl), [], trivial, _, .inl h443⟩

end Go.Fx



set_option linter.unusedVariables false
set_option linter.unusedSimpArgs false
set_option maxRecDepth 100000
set_option maxHeartbeats 0
namespace Go.Fx
open Go Go.RowKit Go.Proofs
def m59_journal_records (l : List (List UInt8)) : Option (List (Int × (List UInt8))) :=
 (m69_journal_records_1 l).bind fun l_1 =>
 some l_1

theorem c59_journal_records {w : World} {O : List Nat} {l : List (List UInt8)} {a_l : Option Addr} {c_l : Nat} (hO : ∀ k ∈ O, k < w.heap.size) (f_l : SlR (rSl rU8) w O a_l c_l l) {x : (List (Int × (List UInt8)))} (hm : m59_journal_records l = some x) :
  Ok Try.prog 59 [(Value.slice a_l l.length c_l)] w O (vIt Try.prog (enc2 (vI .i64) (vC (rSl rU8)))) x := by
 unfold m59_journal_records at hm
 refine Fn_of_Wp (n := 4) (xs := [.tmp 2]) Try.func59 rfl Try.ntmps59 Try.results59 rfl ?_
 have hs := St.start hO
 refine Wp_seq ?_
 refine Wp_region ?_
 refine Rg_op rfl (op_box (cs := [(Value.slice a_l l.length c_l)]) hs rfl rfl ?_)
 intro b1 w2 _ p3 hs4
 replace f_l := f_l.step p3; clear p3
 refine Rg_op rfl (op_assign (v := Value.nilFunc) rfl ?_)
 refine Rg_nil ?_
 refine Wp_seq ?_
 refine Wp_region ?_
 obtain ⟨hs7, p8, f6⟩ := St.publishP (p := (rSl (rSl rU8))) (i := 0) (x := l) hs4 rfl (mk_sl f_l)
 replace f_l := f_l.step p8; clear p8 hs4
 refine Rg_op rfl (op_makeFunc' (a' := []) (c' := [(Value.pointer (some (⟨b1, 0, none⟩ : Addr)))]) rfl rfl ?_)
 replace hm := bd hm; obtain ⟨l_1, hv9, hm⟩ := hm
 have F10 : ItR Try.prog (enc2 (vI .i64) (vC (rSl rU8))) w2 (ks [] O) (Value.func (.func 69) #[] #[(Value.pointer (some (⟨b1, 0, none⟩ : Addr)))]) l_1 := ⟨69, [(Value.pointer (some (⟨b1, 0, none⟩ : Addr)))], rfl, Try.call69, c69_journal_records_1 hs7.ltw f6 hv9⟩
 refine Rg_op rfl (op_assign (v := (Value.func (.func 69) #[] #[(Value.pointer (some (⟨b1, 0, none⟩ : Addr)))])) rfl ?_)
 refine Rg_nil ?_
 refine Wp_ret ?_
 have hz := step_all hs7
 replace f_l := f_l.step hz; replace f6 := f6.step hz; replace F10 := F10.step hz
 refine ⟨_, (show Closes [] _ _ from rfl), [(Value.func (.func 69) #[] #[(Value.pointer (some (⟨b1, 0, none⟩ : Addr)))])], ⟨rfl, trivial⟩, hs7.ext, ?_⟩
 exact Vr.eq (a := (vIt Try.prog (enc2 (vI .i64) (vC (rSl rU8))))) (x := l_1) F10 (Option.some.inj hm)

end Go.Fx



set_option linter.unusedVariables false
set_option linter.unusedSimpArgs false
set_option maxRecDepth 100000
set_option maxHeartbeats 0
namespace Go.Fx
open Go Go.RowKit Go.Proofs
def m38_journal_Open_B0 (sf72 : (List (List UInt8)) → Option (XJournal × Int)) (xi63 : Int × (List UInt8)) (v_1 : List (List UInt8)) : Option (XJournal × Int) :=
 ck ((v_1.length + [xi63.2].length) * 24 ≤ 140737488355328) <|
 sf72 (v_1 ++ [xi63.2])

def m38_journal_Open (d : XDisk) : Option (XJournal × Int) :=
 (m18_disk_Check d).bind fun check_1 =>
 bif (decide (check_1 ≠ 0)) then
  some ((⟨([] : List (List UInt8)), 0, 0⟩ : XJournal), check_1)
 else
  bif d.stopped then
   some ((⟨([] : List (List UInt8)), 0, 0⟩ : XJournal), 440)
  else
   bif (decide (0 < (d.pending.length : Int))) then
    some ((⟨([] : List (List UInt8)), 0, 0⟩ : XJournal), 1)
   else
    (m59_journal_records d.sectors).bind fun records_1 =>
    jn (fun (v_1 : List (List UInt8)) =>
     some ((⟨v_1, (d.sectors.length : Int), (v_1.length : Int)⟩ : XJournal), 0))
    (fun k52 =>
     rng1 m38_journal_Open_B0 k52 records_1 ([] : List (List UInt8)))

theorem c38_journal_Open {w : World} {O : List Nat} {d : XDisk} {a_d_sectors : Option Addr} {c_d_sectors : Nat} {a_d_pending : Option Addr} {c_d_pending : Nat} (hO : ∀ k ∈ O, k < w.heap.size) (f_d_sectors : SlR (rSl rU8) w O a_d_sectors c_d_sectors d.sectors) (f_d_pending : SlR rXWrite w O a_d_pending c_d_pending d.pending) (r_d_left : InK .i64 d.left) {x : XJournal × Int} (hm : m38_journal_Open d = some x) :
  Ok Try.prog 38 [(Value.agg [(Value.slice a_d_sectors d.sectors.length c_d_sectors), (Value.slice a_d_pending d.pending.length c_d_pending), (Value.int .i64 d.left), (Value.bool d.stopped)].toArray)] w O (vT2 (vA rXJournal) (vI .i64)) x := by
 unfold m38_journal_Open at hm
 refine Fn_of_Wp (n := 41) (xs := [.cell 2 52, .tmp 3]) Try.func38 rfl Try.ntmps38 Try.results38 rfl ?_
 have hs := St.start hO
 refine Wp_seq ?_
 refine Wp_region ?_
 refine Rg_op rfl (op_box (cs := [(Value.slice a_d_sectors d.sectors.length c_d_sectors), (Value.slice a_d_pending d.pending.length c_d_pending), (Value.int .i64 d.left), (Value.bool d.stopped)]) hs rfl rfl ?_)
 intro b1 w2 _ p3 hs4
 replace f_d_sectors := f_d_sectors.step p3; replace f_d_pending := f_d_pending.step p3; clear p3
 refine Rg_op rfl (op_alloc ty52 hs4 ?_)
 intro b6 w7 _ p8 hs9
 replace f_d_sectors := f_d_sectors.step p8; replace f_d_pending := f_d_pending.step p8; clear p8 hs4
 refine Rg_op rfl (op_assign (v := (Value.int .i64 0)) rfl ?_)
 refine Rg_nil ?_
 refine Wp_seq ?_
 refine Wp_seq ?_
 refine Wp_region ?_
 refine Rg_op rfl (op_loadA (cs := [(Value.slice a_d_sectors d.sectors.length c_d_sectors), (Value.slice a_d_pending d.pending.length c_d_pending), (Value.int .i64 d.left), (Value.bool d.stopped)]) (vs := [(Value.slice a_d_sectors d.sectors.length c_d_sectors), (Value.slice a_d_pending d.pending.length c_d_pending), (Value.int .i64 d.left), (Value.bool d.stopped)]) (i := 1) ty25 hs9 rfl rfl rfl rfl ?_)
 replace hm := bd hm; obtain ⟨check_1, hv11, hm⟩ := hm
 refine Rg_op rfl (op_call Try.call18 (c18_disk_Check (d := d) hs9.ltw f_d_sectors f_d_pending r_d_left hv11) rfl ?_)
 rintro v12 w13 ⟨hx14, h15⟩
 have hs16 := hs9.call hx14
 have p17 := Step.ext (O := ks [(some b6, Obj.cells [(Value.slice none 0 0), (Value.int .i64 0), (Value.int .i64 0)].toArray 52), (some b1, Obj.cells [(Value.slice a_d_sectors d.sectors.length c_d_sectors), (Value.slice a_d_pending d.pending.length c_d_pending), (Value.int .i64 d.left), (Value.bool d.stopped)].toArray 25)] O) hx14
 clear hx14
 replace f_d_sectors := f_d_sectors.step p17; replace f_d_pending := f_d_pending.step p17; clear p17 hs9
 obtain ⟨rfl, r_y18⟩ := h15
 refine Rg_op rfl (op_assign (v := (Value.int .i64 check_1)) rfl ?_)
 refine Rg_nil ?_
 refine Wp_seq ?_
 refine Wp_region ?_
 refine Rg_op rfl (op_move (v := (Value.int .i64 check_1)) rfl ?_)
 refine Rg_op rfl (op_neq rfl rfl ?_)
 refine Rg_nil ?_
 refine Wp_cond rfl (fun hc19 => ?_) (fun hc19 => ?_)
 ·
  replace hm := bif_t hm hc19
  refine Wp_seq ?_
  obtain ⟨hs20, p21⟩ := hs16.sub (bs' := [(some b6, Obj.cells [(Value.slice none 0 0), (Value.int .i64 0), (Value.int .i64 0)].toArray 52)]) (.cons_cons _ (.cons _ List.Sublist.slnil))
  clear f_d_sectors f_d_pending
  clear p21 hs16
  refine Wp_region ?_
  refine Rg_op rfl (op_build (vs := [(Value.slice none 0 0), (Value.int .i64 0), (Value.int .i64 0)]) (parts := []) ty52 pl52 rfl ?_)
  refine Rg_op rfl (op_move (v := (Value.int .i64 check_1)) rfl ?_)
  refine Rg_op_ (op_store (cs := [(Value.slice none 0 0), (Value.int .i64 0), (Value.int .i64 0)]) (vs := [(Value.slice none 0 0), (Value.int .i64 0), (Value.int .i64 0)]) (cs' := [(Value.slice none 0 0), (Value.int .i64 0), (Value.int .i64 0)]) (bs' := [(some b6, Obj.cells [(Value.slice none 0 0), (Value.int .i64 0), (Value.int .i64 0)].toArray 52)]) (i := 0) ty52 hs20 rfl rfl rfl rfl rfl (le_lit rfl) rfl rfl rfl ?_)
  intro w22 p23 hs24
  clear p23 hs20
  refine Rg_op rfl (op_assign (v := (Value.int .i64 check_1)) rfl ?_)
  refine Rg_nil ?_
  refine Wp_ret ?_
  have hz := step_all hs24
  refine ⟨_, (show Closes [] _ _ from rfl), [(Value.agg [(Value.slice none 0 0), (Value.int .i64 0), (Value.int .i64 0)].toArray), (Value.int .i64 check_1)], ⟨resA (cs := [(Value.slice none 0 0), (Value.int .i64 0), (Value.int .i64 0)]) (vs := [(Value.slice none 0 0), (Value.int .i64 0), (Value.int .i64 0)]) ty52 (i := 0) hs24 rfl rfl rfl rfl, rfl, trivial⟩, hs24.ext, ?_⟩
  exact Vr.eq (a := (vT2 (vA rXJournal) (vI .i64))) (x := ((⟨([] : List (List UInt8)), 0, 0⟩ : XJournal), check_1)) (mkT2 (mkA (mkVia (mk_pair (mk_sl SlR.nil_) (mk_pair (mk_int (show InK .i64 0 from by decide)) (mk_int (show InK .i64 0 from by decide)))))) ⟨rfl, r_y18⟩) (Option.some.inj hm)
 ·
  replace hm := bif_f hm hc19
  refine Wp_skip ?_
  refine Wp_seq ?_
  refine Wp_seq ?_
  refine Wp_region ?_
  refine Rg_op rfl (op_fieldAddr ty25 rfl ty4 (by decide) rfl (rfl : _ = (⟨_, 3, none⟩ : Addr)) ?_)
  refine Rg_op rfl (op_load (cs := [(Value.slice a_d_sectors d.sectors.length c_d_sectors), (Value.slice a_d_pending d.pending.length c_d_pending), (Value.int .i64 d.left), (Value.bool d.stopped)]) (i := 1) ty4 hs16 rfl rfl rfl ?_)
  refine Rg_nil ?_
  refine Wp_cond rfl (fun hc25 => ?_) (fun hc25 => ?_)
  ·
   replace hm := bif_t hm hc25
   refine Wp_seq ?_
   obtain ⟨hs26, p27⟩ := hs16.sub (bs' := [(some b6, Obj.cells [(Value.slice none 0 0), (Value.int .i64 0), (Value.int .i64 0)].toArray 52)]) (.cons_cons _ (.cons _ List.Sublist.slnil))
   clear f_d_sectors f_d_pending
   clear p27 hs16
   refine Wp_region ?_
   refine Rg_op rfl (op_build (vs := [(Value.slice none 0 0), (Value.int .i64 0), (Value.int .i64 0)]) (parts := []) ty52 pl52 rfl ?_)
   refine Rg_op_ (op_store (cs := [(Value.slice none 0 0), (Value.int .i64 0), (Value.int .i64 0)]) (vs := [(Value.slice none 0 0), (Value.int .i64 0), (Value.int .i64 0)]) (cs' := [(Value.slice none 0 0), (Value.int .i64 0), (Value.int .i64 0)]) (bs' := [(some b6, Obj.cells [(Value.slice none 0 0), (Value.int .i64 0), (Value.int .i64 0)].toArray 52)]) (i := 0) ty52 hs26 rfl rfl rfl rfl rfl (le_lit rfl) rfl rfl rfl ?_)
   intro w28 p29 hs30
   clear p29 hs26
   refine Rg_op rfl (op_assign (v := (Value.int .i64 440)) rfl ?_)
   refine Rg_nil ?_
   refine Wp_ret ?_
   have hz := step_all hs30
   refine ⟨_, (show Closes [] _ _ from rfl), [(Value.agg [(Value.slice none 0 0), (Value.int .i64 0), (Value.int .i64 0)].toArray), (Value.int .i64 440)], ⟨resA (cs := [(Value.slice none 0 0), (Value.int .i64 0), (Value.int .i64 0)]) (vs := [(Value.slice none 0 0), (Value.int .i64 0), (Value.int .i64 0)]) ty52 (i := 0) hs30 rfl rfl rfl rfl, rfl, trivial⟩, hs30.ext, ?_⟩
   exact Vr.eq (a := (vT2 (vA rXJournal) (vI .i64))) (x := ((⟨([] : List (List UInt8)), 0, 0⟩ : XJournal), 440)) (mkT2 (mkA (mkVia (mk_pair (mk_sl SlR.nil_) (mk_pair (mk_int (show InK .i64 0 from by decide)) (mk_int (show InK .i64 0 from by decide)))))) ⟨rfl, (show InK .i64 440 from by decide)⟩) (Option.some.inj hm)
  ·
   replace hm := bif_f hm hc25
   refine Wp_skip ?_
   refine Wp_seq ?_
   refine Wp_seq ?_
   refine Wp_region ?_
   refine Rg_op rfl (op_fieldAddr ty25 rfl ty23 (by decide) rfl (rfl : _ = (⟨_, 1, none⟩ : Addr)) ?_)
   refine Rg_op rfl (op_load (cs := [(Value.slice a_d_sectors d.sectors.length c_d_sectors), (Value.slice a_d_pending d.pending.length c_d_pending), (Value.int .i64 d.left), (Value.bool d.stopped)]) (i := 1) ty23 hs16 rfl rfl rfl ?_)
   refine Rg_op rfl (op_len Try.underlying23 rfl ?_)
   have rl31 := inK_len f_d_pending
   refine Rg_op rfl (op_gtr rfl rfl ?_)
   refine Rg_nil ?_
   refine Wp_cond rfl (fun hc32 => ?_) (fun hc32 => ?_)
   ·
    replace hm := bif_t hm hc32
    refine Wp_seq ?_
    obtain ⟨hs33, p34⟩ := hs16.sub (bs' := [(some b6, Obj.cells [(Value.slice none 0 0), (Value.int .i64 0), (Value.int .i64 0)].toArray 52)]) (.cons_cons _ (.cons _ List.Sublist.slnil))
    clear f_d_sectors f_d_pending
    clear p34 hs16
    refine Wp_region ?_
    refine Rg_op rfl (op_build (vs := [(Value.slice none 0 0), (Value.int .i64 0), (Value.int .i64 0)]) (parts := []) ty52 pl52 rfl ?_)
    refine Rg_op_ (op_store (cs := [(Value.slice none 0 0), (Value.int .i64 0), (Value.int .i64 0)]) (vs := [(Value.slice none 0 0), (Value.int .i64 0), (Value.int .i64 0)]) (cs' := [(Value.slice none 0 0), (Value.int .i64 0), (Value.int .i64 0)]) (bs' := [(some b6, Obj.cells [(Value.slice none 0 0), (Value.int .i64 0), (Value.int .i64 0)].toArray 52)]) (i := 0) ty52 hs33 rfl rfl rfl rfl rfl (le_lit rfl) rfl rfl rfl ?_)
    intro w35 p36 hs37
    clear p36 hs33
    refine Rg_op rfl (op_assign (v := (Value.int .i64 1)) rfl ?_)
    refine Rg_nil ?_
    refine Wp_ret ?_
    have hz := step_all hs37
    refine ⟨_, (show Closes [] _ _ from rfl), [(Value.agg [(Value.slice none 0 0), (Value.int .i64 0), (Value.int .i64 0)].toArray), (Value.int .i64 1)], ⟨resA (cs := [(Value.slice none 0 0), (Value.int .i64 0), (Value.int .i64 0)]) (vs := [(Value.slice none 0 0), (Value.int .i64 0), (Value.int .i64 0)]) ty52 (i := 0) hs37 rfl rfl rfl rfl, rfl, trivial⟩, hs37.ext, ?_⟩
    exact Vr.eq (a := (vT2 (vA rXJournal) (vI .i64))) (x := ((⟨([] : List (List UInt8)), 0, 0⟩ : XJournal), 1)) (mkT2 (mkA (mkVia (mk_pair (mk_sl SlR.nil_) (mk_pair (mk_int (show InK .i64 0 from by decide)) (mk_int (show InK .i64 0 from by decide)))))) ⟨rfl, (show InK .i64 1 from by decide)⟩) (Option.some.inj hm)
   ·
    replace hm := bif_f hm hc32
    refine Wp_skip ?_
    refine Wp_seq ?_
    refine Wp_region ?_
    refine Rg_op rfl (op_fieldAddr ty25 rfl ty22 (by decide) rfl (rfl : _ = (⟨_, 0, none⟩ : Addr)) ?_)
    refine Rg_op rfl (op_load (cs := [(Value.slice a_d_sectors d.sectors.length c_d_sectors), (Value.slice a_d_pending d.pending.length c_d_pending), (Value.int .i64 d.left), (Value.bool d.stopped)]) (i := 1) ty22 hs16 rfl rfl rfl ?_)
    refine Rg_op rfl (op_len Try.underlying22 rfl ?_)
    have rl38 := inK_len f_d_sectors
    refine Rg_op rfl (op_fieldAddr ty52 rfl ty3 (by decide) rfl (rfl : _ = (⟨_, 1, none⟩ : Addr)) ?_)
    refine Rg_op_ (op_store (cs := [(Value.slice none 0 0), (Value.int .i64 0), (Value.int .i64 0)]) (vs := [(Value.int .i64 (d.sectors.length : Int))]) (cs' := [(Value.slice none 0 0), (Value.int .i64 (d.sectors.length : Int)), (Value.int .i64 0)]) (bs' := [(some b6, Obj.cells [(Value.slice none 0 0), (Value.int .i64 (d.sectors.length : Int)), (Value.int .i64 0)].toArray 52), (some b1, Obj.cells [(Value.slice a_d_sectors d.sectors.length c_d_sectors), (Value.slice a_d_pending d.pending.length c_d_pending), (Value.int .i64 d.left), (Value.bool d.stopped)].toArray 25)]) (i := 0) ty3 hs16 rfl rfl rfl rfl rfl (le_lit rfl) rfl rfl rfl ?_)
    intro w39 p40 hs41
    replace f_d_sectors := f_d_sectors.step p40; replace f_d_pending := f_d_pending.step p40; clear p40 hs16
    refine Rg_nil ?_
    refine Wp_seq ?_
    refine Wp_seq ?_
    refine Wp_region ?_
    refine Rg_op rfl (op_fieldAddr ty25 rfl ty22 (by decide) rfl (rfl : _ = (⟨_, 0, none⟩ : Addr)) ?_)
    refine Rg_op rfl (op_load (cs := [(Value.slice a_d_sectors d.sectors.length c_d_sectors), (Value.slice a_d_pending d.pending.length c_d_pending), (Value.int .i64 d.left), (Value.bool d.stopped)]) (i := 1) ty22 hs41 rfl rfl rfl ?_)
    replace hm := bd hm; obtain ⟨records_1, hv42, hm⟩ := hm
    refine Rg_op rfl (op_call Try.call59 (c59_journal_records (l := d.sectors) hs41.ltw f_d_sectors hv42) rfl ?_)
    rintro v43 w44 ⟨hx45, h46⟩
    have hs47 := hs41.call hx45
    have p48 := Step.ext (O := ks [(some b6, Obj.cells [(Value.slice none 0 0), (Value.int .i64 (d.sectors.length : Int)), (Value.int .i64 0)].toArray 52), (some b1, Obj.cells [(Value.slice a_d_sectors d.sectors.length c_d_sectors), (Value.slice a_d_pending d.pending.length c_d_pending), (Value.int .i64 d.left), (Value.bool d.stopped)].toArray 25)] O) hx45
    clear hx45
    replace f_d_sectors := f_d_sectors.step p48; replace f_d_pending := f_d_pending.step p48; clear p48 hs41
    have F_y49 : ItR Try.prog (enc2 (vI .i64) (vC (rSl rU8))) _ _ v43 records_1 := h46
    refine Rg_nil ?_
    refine Wp_block ?_
    have hit58 := F_y49; obtain ⟨fk54, cp55, hvq56, hcl57, hit58⟩ := hit58
    replace hm := jn_elim hm; obtain ⟨k52, hk53, hm⟩ := hm
    have hs59 := hs47.ghost (Obj.cells #[] 41)
    refine Wp_rangeFunc (σ := (List (List UInt8)) × (Option Addr) × Nat × (Option Nat) × Obj) (ps := [28, 29]) hs59 (rfl.trans hvq56) hcl57 hit58 rfl enc2_len enc2_step (fun s => match s with | (v_1, a_g51, c_g51, k_g51, o_g51) => [(k_g51, o_g51), (some b6, Obj.cells [(Value.slice a_g51 v_1.length c_g51), (Value.int .i64 (d.sectors.length : Int)), (Value.int .i64 0)].toArray 52), (some b1, Obj.cells [(Value.slice a_d_sectors d.sectors.length c_d_sectors), (Value.slice a_d_pending d.pending.length c_d_pending), (Value.int .i64 d.left), (Value.bool d.stopped)].toArray 25)]) (fun s w O => match s with | (v_1, a_g51, c_g51, k_g51, o_g51) => Gs (rSl rU8) 41 w O a_g51 c_g51 v_1 k_g51 o_g51) (fun s w O w' O' p h => by obtain ⟨v_1, a_g51, c_g51, k_g51, o_g51⟩ := s; have h : Gs (rSl rU8) 41 w O a_g51 c_g51 v_1 k_g51 o_g51 := h; have f_g51 := h; exact f_g51.step p) (fun s l => match s with | (v_1, a_g51, c_g51, k_g51, o_g51) => rng1 m38_journal_Open_B0 k52 l v_1 = some x) [] (fun _ _ => False) (([] : List (List UInt8)), none, 0, none, (Obj.cells #[] 41)) rfl Gs.nil_ hm ?_ ?_ ?_
    ·
     rintro l61 E62 ⟨v_1, a_g51, c_g51, k_g51, o_g51⟩ xi63 rest64 w65 vs66 z67 hz68 hs69 hst70 f_g51 hm hx71
     replace hs69 : St z67 (E62 ++ O) w65 [(k_g51, o_g51), (some b6, Obj.cells [(Value.slice a_g51 v_1.length c_g51), (Value.int .i64 (d.sectors.length : Int)), (Value.int .i64 0)].toArray 52), (some b1, Obj.cells [(Value.slice a_d_sectors d.sectors.length c_d_sectors), (Value.slice a_d_pending d.pending.length c_d_pending), (Value.int .i64 d.left), (Value.bool d.stopped)].toArray 25)] := hs69
     have ch74 : Step (ks [(none, (Obj.cells #[] 41)), (some b6, Obj.cells [(Value.slice none 0 0), (Value.int .i64 (d.sectors.length : Int)), (Value.int .i64 0)].toArray 52), (some b1, Obj.cells [(Value.slice a_d_sectors d.sectors.length c_d_sectors), (Value.slice a_d_pending d.pending.length c_d_pending), (Value.int .i64 d.left), (Value.bool d.stopped)].toArray 25)] O) w44 (ks [(k_g51, o_g51), (some b6, Obj.cells [(Value.slice a_g51 v_1.length c_g51), (Value.int .i64 (d.sectors.length : Int)), (Value.int .i64 0)].toArray 52), (some b1, Obj.cells [(Value.slice a_d_sectors d.sectors.length c_d_sectors), (Value.slice a_d_pending d.pending.length c_d_pending), (Value.int .i64 d.left), (Value.bool d.stopped)].toArray 25)] (E62 ++ O)) w65 := hst70; clear hst70
     replace f_g51 : Gs (rSl rU8) 41 w65 (ks [(k_g51, o_g51), (some b6, Obj.cells [(Value.slice a_g51 v_1.length c_g51), (Value.int .i64 (d.sectors.length : Int)), (Value.int .i64 0)].toArray 52), (some b1, Obj.cells [(Value.slice a_d_sectors d.sectors.length c_d_sectors), (Value.slice a_d_pending d.pending.length c_d_pending), (Value.int .i64 d.left), (Value.bool d.stopped)].toArray 25)] (E62 ++ O)) a_g51 c_g51 v_1 k_g51 o_g51 := f_g51
     have hm75 := rng1_s (show rng1 _ _ (xi63 :: rest64) v_1 = some _ from hm); clear hm; obtain ⟨sf72, hsf73, hm⟩ := hm75
     unfold m38_journal_Open_B0 at hm
     replace f_d_sectors := f_d_sectors.step ch74; replace f_d_pending := f_d_pending.step ch74; replace F_y49 := F_y49.step ch74
     replace hx71 : (enc2 (vI .i64) (vC (rSl rU8))) xi63 w65 (ks [(k_g51, o_g51), (some b6, Obj.cells [(Value.slice a_g51 v_1.length c_g51), (Value.int .i64 (d.sectors.length : Int)), (Value.int .i64 0)].toArray 52), (some b1, Obj.cells [(Value.slice a_d_sectors d.sectors.length c_d_sectors), (Value.slice a_d_pending d.pending.length c_d_pending), (Value.int .i64 d.left), (Value.bool d.stopped)].toArray 25)] (E62 ++ O)) vs66 := hx71
     obtain ⟨v76, v77, rfl, h78, h79⟩ := hx71
     obtain ⟨rfl, r_y80⟩ := h78
     obtain ⟨a_y81, c_y81, rfl, f_y81⟩ := un_sl h79
     refine Wp_region ?_
     refine Rg_op rfl (op_assign (v := (Value.slice a_y81 xi63.2.length c_y81)) rfl ?_)
     refine Rg_nil ?_
     refine Exists.intro _ (And.intro hs69 ?_)
     intro w82 z83 RQ84 hz85 hs86 p87 hN88 hX89
     replace f_d_sectors := f_d_sectors.step p87; replace f_d_pending := f_d_pending.step p87; replace F_y49 := F_y49.step p87; replace f_g51 := f_g51.step p87; replace f_y81 := f_y81.step p87; replace ch74 := ch74.trans p87; clear p87 hs69
     refine Wp_block ?_
     refine Wp_reset [] [(2, (Value.pointer (some ⟨b6, 0, none⟩))), (3, (Value.int .i64 0)), (6, (Value.slice a_y81 xi63.2.length c_y81)), (27, v43)] rfl ⟨rfl, rfl, rfl, rfl, trivial⟩ fun ξ90 => ?_
     refine Wp_region ?_
     refine Rg_op rfl (op_fieldAddr ty52 rfl ty22 (by decide) rfl (rfl : _ = (⟨_, 0, none⟩ : Addr)) ?_)
     refine Rg_op rfl (op_load (cs := [(Value.slice a_g51 v_1.length c_g51), (Value.int .i64 (d.sectors.length : Int)), (Value.int .i64 0)]) (i := 1) ty22 hs86 rfl rfl rfl ?_)
     refine Rg_op rfl (op_move (v := (Value.slice a_y81 xi63.2.length c_y81)) rfl ?_)
     refine Rg_op rfl (op_buildSlice (cs := [(Value.slice a_y81 xi63.2.length c_y81)]) (parts := [(0, .tmp 32)]) ty22 ty41 hs86 (by decide) rfl ?_)
     intro b91 w92 hx95 p93 hs94
     replace f_d_sectors := f_d_sectors.step p93; replace f_d_pending := f_d_pending.step p93; replace F_y49 := F_y49.step p93; replace f_g51 := f_g51.step p93; replace f_y81 := f_y81.step p93; replace ch74 := ch74.trans p93; clear p93 hs86
     replace hm := ck_some hm; obtain ⟨hc97, hm⟩ := hm
     refine Rg_op rfl (op_append (q := (rSl rU8)) (i := 1) (xs := v_1) (ys := [xi63.2]) (news := [(Value.slice a_y81 xi63.2.length c_y81)]) ty22 ty41 rfl (by decide) hs94 rfl rfl f_g51 rfl (Src.owned' (len := 1) (hs94.get (i := 0) rfl) rfl) (show Els (rSl rU8) _ _ [(Value.slice a_y81 xi63.2.length c_y81)] [xi63.2] from ⟨_, _, rfl, (mk_sl f_y81), Els.nil⟩) hc97 (by have := hc97; simp only [maxLen]; omega) ?_)
     intro a101 c102 k103 o104 w98 p99 hs100 f105
     replace f_d_sectors := f_d_sectors.step p99; replace f_d_pending := f_d_pending.step p99; replace F_y49 := F_y49.step p99; replace f_y81 := f_y81.step p99; replace ch74 := ch74.trans p99; clear p99 hs94
     have hs106 := hs100.drop 0
     replace f_d_sectors := f_d_sectors.step (hs100.dropS 0)
     replace f_d_pending := f_d_pending.step (hs100.dropS 0)
     replace F_y49 := F_y49.step (hs100.dropS 0)
     replace f_y81 := f_y81.step (hs100.dropS 0)
     replace f105 := f105.step (hs100.dropS 0)
     replace ch74 := ch74.trans (hs100.dropS 0); clear hs100
     refine Rg_op rfl (op_fieldAddr ty52 rfl ty22 (by decide) rfl (rfl : _ = (⟨_, 0, none⟩ : Addr)) ?_)
     refine Rg_op_ (op_store (cs := [(Value.slice a_g51 v_1.length c_g51), (Value.int .i64 (d.sectors.length : Int)), (Value.int .i64 0)]) (vs := [(Value.slice a101 (v_1 ++ [xi63.2]).length c102)]) (cs' := [(Value.slice a101 (v_1 ++ [xi63.2]).length c102), (Value.int .i64 (d.sectors.length : Int)), (Value.int .i64 0)]) (bs' := [(k103, o104), (some b6, Obj.cells [(Value.slice a101 (v_1 ++ [xi63.2]).length c102), (Value.int .i64 (d.sectors.length : Int)), (Value.int .i64 0)].toArray 52), (some b1, Obj.cells [(Value.slice a_d_sectors d.sectors.length c_d_sectors), (Value.slice a_d_pending d.pending.length c_d_pending), (Value.int .i64 d.left), (Value.bool d.stopped)].toArray 25)]) (i := 1) ty22 hs106 rfl rfl rfl rfl rfl (le_lit rfl) rfl rfl rfl ?_)
     intro w107 p108 hs109
     replace f_d_sectors := f_d_sectors.step p108; replace f_d_pending := f_d_pending.step p108; replace F_y49 := F_y49.step p108; replace f_y81 := f_y81.step p108; replace f105 := f105.step p108; replace ch74 := ch74.trans p108; clear p108 hs106
     refine Rg_nil ?_
     exact hN88 ((v_1 ++ [xi63.2]), a101, c102, k103, o104) _ _ hs109 ch74 f105 (jnE1 hsf73 hm)
    ·
     rintro D110 ⟨v_1, a_g51, c_g51, k_g51, o_g51⟩ w111 hs112 hst113 f_g51 hm
     replace hs112 : St ⟨w, [], (D110 :: [])⟩ (D110 :: O) w111 [(k_g51, o_g51), (some b6, Obj.cells [(Value.slice a_g51 v_1.length c_g51), (Value.int .i64 (d.sectors.length : Int)), (Value.int .i64 0)].toArray 52), (some b1, Obj.cells [(Value.slice a_d_sectors d.sectors.length c_d_sectors), (Value.slice a_d_pending d.pending.length c_d_pending), (Value.int .i64 d.left), (Value.bool d.stopped)].toArray 25)] := hs112
     replace hst113 : Step (ks [(none, (Obj.cells #[] 41)), (some b6, Obj.cells [(Value.slice none 0 0), (Value.int .i64 (d.sectors.length : Int)), (Value.int .i64 0)].toArray 52), (some b1, Obj.cells [(Value.slice a_d_sectors d.sectors.length c_d_sectors), (Value.slice a_d_pending d.pending.length c_d_pending), (Value.int .i64 d.left), (Value.bool d.stopped)].toArray 25)] O) w44 (ks [(k_g51, o_g51), (some b6, Obj.cells [(Value.slice a_g51 v_1.length c_g51), (Value.int .i64 (d.sectors.length : Int)), (Value.int .i64 0)].toArray 52), (some b1, Obj.cells [(Value.slice a_d_sectors d.sectors.length c_d_sectors), (Value.slice a_d_pending d.pending.length c_d_pending), (Value.int .i64 d.left), (Value.bool d.stopped)].toArray 25)] (D110 :: O)) w111 := hst113
     replace f_g51 : Gs (rSl rU8) 41 w111 (ks [(k_g51, o_g51), (some b6, Obj.cells [(Value.slice a_g51 v_1.length c_g51), (Value.int .i64 (d.sectors.length : Int)), (Value.int .i64 0)].toArray 52), (some b1, Obj.cells [(Value.slice a_d_sectors d.sectors.length c_d_sectors), (Value.slice a_d_pending d.pending.length c_d_pending), (Value.int .i64 d.left), (Value.bool d.stopped)].toArray 25)] (D110 :: O)) a_g51 c_g51 v_1 k_g51 o_g51 := f_g51
     replace hm := rng1_z (show rng1 _ _ [] v_1 = some _ from hm)
     replace hm := jnE1 hk53 (show k52 v_1 = some _ from hm)
     replace f_d_sectors := f_d_sectors.step hst113; replace f_d_pending := f_d_pending.step hst113; replace F_y49 := F_y49.step hst113; clear hst113 hs59
     refine Wp_seq ?_
     obtain ⟨hs115, p116⟩ := hs112.sub (bs' := [(k_g51, o_g51), (some b6, Obj.cells [(Value.slice a_g51 v_1.length c_g51), (Value.int .i64 (d.sectors.length : Int)), (Value.int .i64 0)].toArray 52)]) (.cons_cons _ (.cons_cons _ (.cons _ List.Sublist.slnil)))
     clear f_d_sectors f_d_pending F_y49
     replace f_g51 := f_g51.step p116; clear p116 hs112
     refine Wp_region ?_
     refine Rg_op rfl (op_fieldAddr ty52 rfl ty22 (by decide) rfl (rfl : _ = (⟨_, 0, none⟩ : Addr)) ?_)
     refine Rg_op rfl (op_load (cs := [(Value.slice a_g51 v_1.length c_g51), (Value.int .i64 (d.sectors.length : Int)), (Value.int .i64 0)]) (i := 1) ty22 hs115 rfl rfl rfl ?_)
     refine Rg_op rfl (op_len Try.underlying22 rfl ?_)
     have rl117 := inK_lenG f_g51
     refine Rg_op rfl (op_fieldAddr ty52 rfl ty3 (by decide) rfl (rfl : _ = (⟨_, 2, none⟩ : Addr)) ?_)
     refine Rg_op_ (op_store (cs := [(Value.slice a_g51 v_1.length c_g51), (Value.int .i64 (d.sectors.length : Int)), (Value.int .i64 0)]) (vs := [(Value.int .i64 (v_1.length : Int))]) (cs' := [(Value.slice a_g51 v_1.length c_g51), (Value.int .i64 (d.sectors.length : Int)), (Value.int .i64 (v_1.length : Int))]) (bs' := [(k_g51, o_g51), (some b6, Obj.cells [(Value.slice a_g51 v_1.length c_g51), (Value.int .i64 (d.sectors.length : Int)), (Value.int .i64 (v_1.length : Int))].toArray 52)]) (i := 1) ty3 hs115 rfl rfl rfl rfl rfl (le_lit rfl) rfl rfl rfl ?_)
     intro w118 p119 hs120
     replace f_g51 := f_g51.step p119; clear p119 hs115
     refine Rg_nil ?_
     refine Wp_seq ?_
     refine Wp_region ?_
     refine Rg_op rfl (op_loadA (cs := [(Value.slice a_g51 v_1.length c_g51), (Value.int .i64 (d.sectors.length : Int)), (Value.int .i64 (v_1.length : Int))]) (vs := [(Value.slice a_g51 v_1.length c_g51), (Value.int .i64 (d.sectors.length : Int)), (Value.int .i64 (v_1.length : Int))]) (i := 1) ty52 hs120 rfl rfl rfl rfl ?_)
     refine Rg_op_ (op_store (cs := [(Value.slice a_g51 v_1.length c_g51), (Value.int .i64 (d.sectors.length : Int)), (Value.int .i64 (v_1.length : Int))]) (vs := [(Value.slice a_g51 v_1.length c_g51), (Value.int .i64 (d.sectors.length : Int)), (Value.int .i64 (v_1.length : Int))]) (cs' := [(Value.slice a_g51 v_1.length c_g51), (Value.int .i64 (d.sectors.length : Int)), (Value.int .i64 (v_1.length : Int))]) (bs' := [(k_g51, o_g51), (some b6, Obj.cells [(Value.slice a_g51 v_1.length c_g51), (Value.int .i64 (d.sectors.length : Int)), (Value.int .i64 (v_1.length : Int))].toArray 52)]) (i := 1) ty52 hs120 rfl rfl rfl rfl rfl (le_lit rfl) rfl rfl rfl ?_)
     intro w121 p122 hs123
     replace f_g51 := f_g51.step p122; clear p122 hs120
     refine Rg_op rfl (op_assign (v := (Value.int .i64 0)) rfl ?_)
     refine Rg_nil ?_
     refine Wp_ret ?_
     obtain ⟨w124, hcl125, hs126, p127⟩ := St.close hs123
     replace f_g51 := f_g51.step p127; clear p127 hs123
     obtain ⟨hs129, p130, f128⟩ := Gs.publish (i := 0) hs126 rfl f_g51
     clear p130 hs126
     have hz := (step_all hs129).trans (Step.sub (O' := O) (fun k hk => by simp [hk]))
     replace f128 := f128.step hz
     refine ⟨_, hcl125, [(Value.agg [(Value.slice a_g51 v_1.length c_g51), (Value.int .i64 (d.sectors.length : Int)), (Value.int .i64 (v_1.length : Int))].toArray), (Value.int .i64 0)], ⟨resA (cs := [(Value.slice a_g51 v_1.length c_g51), (Value.int .i64 (d.sectors.length : Int)), (Value.int .i64 (v_1.length : Int))]) (vs := [(Value.slice a_g51 v_1.length c_g51), (Value.int .i64 (d.sectors.length : Int)), (Value.int .i64 (v_1.length : Int))]) ty52 (i := 0) hs129 rfl rfl rfl rfl, rfl, trivial⟩, hs129.ext, ?_⟩
     exact Vr.eq (a := (vT2 (vA rXJournal) (vI .i64))) (x := ((⟨v_1, (d.sectors.length : Int), (v_1.length : Int)⟩ : XJournal), 0)) (mkT2 (mkA (mkVia (mk_pair (mk_sl f128) (mk_pair (mk_int rl38) (mk_int rl117))))) ⟨rfl, (show InK .i64 0 from by decide)⟩) (Option.some.inj hm)
    · intro _ _ _ _ h; simp at h

end Go.Fx



set_option linter.unusedVariables false
set_option linter.unusedSimpArgs false
set_option maxRecDepth 100000
set_option maxHeartbeats 0
namespace Go.Fx
open Go Go.RowKit Go.Proofs
def m61_slices_EqualFuncbyte_byte_byte_byte__B0 (s1_ : List (List UInt8)) (s2_ : List (List UInt8)) (eq : (List UInt8) → (List UInt8) → Option Bool) (sf7 : Int → Option Bool) (v_1 : Int) : Option Bool :=
 bif (decide (v_1 < (s1_.length : Int))) then
  ck ((0 : Int) ≤ v_1 ∧ v_1 < (s1_.length : Int)) <|
  ck ((0 : Int) ≤ v_1 ∧ v_1 < (s2_.length : Int)) <|
  (eq (s1_.getD v_1.toNat default) (s2_.getD v_1.toNat default)).bind fun r_1 =>
  bif (!r_1) then
   some false
  else
   sf7 (IntKind.wrap .i64 (v_1 + 1))
 else
  some true

def m61_slices_EqualFuncbyte_byte_byte_byte_ (s1_ : List (List UInt8)) (s2_ : List (List UInt8)) (eq : (List UInt8) → (List UInt8) → Option Bool) : Option Bool :=
 bif (decide ((s1_.length : Int) ≠ (s2_.length : Int))) then
  some false
 else
  loop1 (m61_slices_EqualFuncbyte_byte_byte_byte__B0 s1_ s2_ eq) (((s1_.length : Int) - 0).toNat + 1) 0

theorem c61_slices_EqualFuncbyte_byte_byte_byte_ {w : World} {O : List Nat} {s1_ : List (List UInt8)} {s2_ : List (List UInt8)} {eq : (List UInt8) → (List UInt8) → Option Bool} {a_s1_ : Option Addr} {c_s1_ : Nat} {a_s2_ : Option Addr} {c_s2_ : Nat} {v_eq : Value} (hO : ∀ k ∈ O, k < w.heap.size) (f_s1_ : SlR (rSl rU8) w O a_s1_ c_s1_ s1_) (f_s2_ : SlR (rSl rU8) w O a_s2_ c_s2_ s2_) (F_eq : CallsTo2 Try.prog w O v_eq (vC (rSl rU8)) (vC (rSl rU8)) vB eq) {x : Bool} (hm : m61_slices_EqualFuncbyte_byte_byte_byte_ s1_ s2_ eq = some x) :
  Ok Try.prog 61 [(Value.slice a_s1_ s1_.length c_s1_), (Value.slice a_s2_ s2_.length c_s2_), v_eq] w O vB x := by
 unfold m61_slices_EqualFuncbyte_byte_byte_byte_ at hm
 refine Fn_of_Wp (n := 32) (xs := [.tmp 6]) Try.func61 rfl Try.ntmps61 Try.results61 rfl ?_
 have hs := St.start hO
 refine Wp_seq ?_
 refine Wp_region ?_
 refine Rg_op rfl (op_assign (v := (Value.bool false)) rfl ?_)
 refine Rg_nil ?_
 refine Wp_seq ?_
 refine Wp_seq ?_
 refine Wp_region ?_
 refine Rg_op rfl (op_move (v := (Value.slice a_s1_ s1_.length c_s1_)) rfl ?_)
 refine Rg_op rfl (op_len Try.underlying22 rfl ?_)
 have rl1 := inK_len f_s1_
 refine Rg_op rfl (op_move (v := (Value.slice a_s2_ s2_.length c_s2_)) rfl ?_)
 refine Rg_op rfl (op_len Try.underlying22 rfl ?_)
 have rl2 := inK_len f_s2_
 refine Rg_op rfl (op_neq rfl rfl ?_)
 refine Rg_nil ?_
 refine Wp_cond rfl (fun hc3 => ?_) (fun hc3 => ?_)
 ·
  replace hm := bif_t hm hc3
  refine Wp_seq ?_
  clear f_s1_ f_s2_ F_eq
  refine Wp_region ?_
  refine Rg_op rfl (op_assign (v := (Value.bool false)) rfl ?_)
  refine Rg_nil ?_
  refine Wp_ret ?_
  have hz := step_all hs
  refine ⟨_, (show Closes [] _ _ from rfl), [(Value.bool false)], ⟨rfl, trivial⟩, hs.ext, ?_⟩
  exact Vr.eq (a := vB) (x := false) rfl (Option.some.inj hm)
 ·
  replace hm := bif_f hm hc3
  refine Wp_skip ?_
  refine Wp_seq ?_
  refine Wp_seq ?_
  refine Wp_region ?_
  refine Rg_op rfl (op_move (v := (Value.slice a_s1_ s1_.length c_s1_)) rfl ?_)
  refine Rg_op rfl (op_len Try.underlying22 rfl ?_)
  have rl4 := inK_len f_s1_
  refine Rg_op rfl (op_move (v := (Value.int .i64 0)) rfl ?_)
  refine Rg_nil ?_
  refine Wp_block ?_
  refine Wp_reset [] [(1, (Value.slice a_s2_ s2_.length c_s2_)), (2, v_eq), (15, (Value.slice a_s1_ s1_.length c_s1_)), (16, (Value.int .i64 (s1_.length : Int))), (17, (Value.int .i64 0))] rfl ⟨rfl, rfl, rfl, rfl, rfl, trivial⟩ fun ξ6 => ?_
  refine Wp_loopM [6, 7, 8, 9, 17, 18, 19, 20, 21, 22, 23, 24, 25, 26, 27, 28, 29, 30, 31] (fun m fr w' => ∃ (v_1 : Int) (Ebs : Ents), Ebs = [] ∧ fr [] [(17, (Value.int .i64 v_1))] ∧ Step (ks [] O) w (ks Ebs O) w' ∧ St ⟨w, [], []⟩ O w' Ebs ∧ InK .i64 v_1 ∧ loop1 (m61_slices_EqualFuncbyte_byte_byte_byte__B0 s1_ s2_ eq) m v_1 = some x) (((s1_.length : Int) - 0).toNat + 1) ⟨0, _, rfl, ⟨Out.refl _ _, rfl, rfl, trivial⟩, Step.refl _ _, hs, (show InK .i64 0 from by decide), hm⟩ ?_ ?_
  · rintro _ _ ⟨_, _, _, _, _, _, _, hm⟩; exact loop1_z hm
  ·
   rintro m10 K9 hK9 ρ15 w11 ⟨v_1, Ebs, hEbs, hfr14, hst13, hs12, r_y5, hm⟩
   obtain ⟨sf7, hsf8, hm⟩ := loop1_s hm; unfold m61_slices_EqualFuncbyte_byte_byte_byte__B0 at hm
   subst hEbs; rw [hfr14.eq]; clear hfr14
   replace f_s1_ := f_s1_.step hst13; replace f_s2_ := f_s2_.step hst13; replace F_eq := F_eq.step hst13
   have ch16 := hst13
   refine Wp_seq ?_
   refine Wp_region ?_
   refine Rg_op rfl (op_lss rfl rfl ?_)
   refine Rg_nil ?_
   refine Wp_seq ?_
   refine Wp_cond rfl (fun hc17 => ?_) (fun hc17 => ?_)
   ·
    replace hm := bif_t hm hc17
    refine Wp_skip ?_
    refine Wp_seq ?_
    refine Wp_block ?_
    refine Wp_seq ?_
    refine Wp_region ?_
    refine Rg_op rfl (op_move (v := (Value.int .i64 v_1)) rfl ?_)
    replace hm := ck_some hm; obtain ⟨hc18, hm⟩ := hm
    refine Rg_op rfl (op_indexAddr (q := (rSl rU8)) ty22 ty41 rfl rfl f_s1_ rfl hc18.1 hc18.2 ?_)
    intro p19 f20
    refine Rg_op rfl (op_loadP ty41 rfl f20 rfl ?_)
    intro v21 h22
    obtain ⟨a_y23, c_y23, rfl, f_y23⟩ := un_sl h22
    refine Rg_op rfl (op_assign (v := (Value.int .i64 v_1)) rfl ?_)
    refine Rg_op rfl (op_assign (v := (Value.slice a_y23 (s1_.getD v_1.toNat default).length c_y23)) rfl ?_)
    refine Rg_nil ?_
    refine Wp_seq ?_
    clear f20
    refine Wp_region ?_
    refine Rg_op rfl (op_move (v := (Value.slice a_s2_ s2_.length c_s2_)) rfl ?_)
    refine Rg_op rfl (op_move (v := (Value.int .i64 v_1)) rfl ?_)
    replace hm := ck_some hm; obtain ⟨hc24, hm⟩ := hm
    refine Rg_op rfl (op_indexAddr (q := (rSl rU8)) ty22 ty41 rfl rfl f_s2_ rfl hc24.1 hc24.2 ?_)
    intro p25 f26
    refine Rg_op rfl (op_loadP ty41 rfl f26 rfl ?_)
    intro v27 h28
    obtain ⟨a_y29, c_y29, rfl, f_y29⟩ := un_sl h28
    refine Rg_op rfl (op_assign (v := (Value.slice a_y29 (s2_.getD v_1.toNat default).length c_y29)) rfl ?_)
    refine Rg_nil ?_
    refine Wp_seq ?_
    clear f26
    refine Wp_region ?_
    refine Rg_op rfl (op_move (v := v_eq) rfl ?_)
    refine Rg_op rfl (op_move (v := (Value.slice a_y23 (s1_.getD v_1.toNat default).length c_y23)) rfl ?_)
    refine Rg_op rfl (op_move (v := (Value.slice a_y29 (s2_.getD v_1.toNat default).length c_y29)) rfl ?_)
    replace hm := bd hm; obtain ⟨r_1, hv30, hm⟩ := hm
    refine Rg_op rfl (op_callF rfl (F_eq.call hs12.ltw (mkC (mk_sl f_y23)) (mkC (mk_sl f_y29)) hv30) rfl ?_)
    rintro v31 w32 ⟨hx33, h34⟩
    have hs35 := hs12.call hx33
    have p36 := Step.ext (O := ks [] O) hx33
    clear hx33
    replace f_s1_ := f_s1_.step p36; replace f_s2_ := f_s2_.step p36; replace F_eq := F_eq.step p36; replace f_y23 := f_y23.step p36; replace f_y29 := f_y29.step p36; replace ch16 := ch16.trans p36; clear p36 hs12
    obtain rfl := h34
    refine Rg_op rfl (op_not rfl ?_)
    refine Rg_nil ?_
    refine Wp_cond rfl (fun hc38 => ?_) (fun hc38 => ?_)
    ·
     replace hm := bif_t hm hc38
     refine Wp_seq ?_
     clear f_s1_ f_s2_ F_eq f_y23 f_y29
     refine Wp_region ?_
     refine Rg_op rfl (op_assign (v := (Value.bool false)) rfl ?_)
     refine Rg_nil ?_
     refine Wp_ret ?_
     have hz := step_all hs35
     refine ⟨_, (show Closes [] _ _ from rfl), [(Value.bool false)], ⟨rfl, trivial⟩, hs35.ext, ?_⟩
     exact Vr.eq (a := vB) (x := false) rfl (Option.some.inj hm)
    ·
     replace hm := bif_f hm hc38
     refine Wp_skip ?_
     clear f_y23 f_y29
     refine Wp_region ?_
     refine Rg_op rfl (op_addw rfl rfl ?_)
     refine Rg_op rfl (op_move (v := (Value.int .i64 (IntKind.wrap .i64 (v_1 + 1)))) rfl ?_)
     refine Rg_nil ?_
     exact hK9 _ _ ⟨(IntKind.wrap .i64 (v_1 + 1)), _, rfl, ⟨(by repeat (first | with_reducible exact Out.refl _ _ | refine Out.upd ?_ rfl | refine Out.updL ?_ rfl | refine Out.mix' ?_ rfl | exact Out.refl _ _)), rfl, rfl, trivial⟩, ch16, hs35, (inK_wrap .i64 _), jnE1 hsf8 hm⟩
   ·
    replace hm := bif_f hm hc17
    refine Wp_exit ?_
    refine Wp_seq ?_
    clear f_s1_ f_s2_ F_eq
    refine Wp_region ?_
    refine Rg_op rfl (op_assign (v := (Value.bool true)) rfl ?_)
    refine Rg_nil ?_
    refine Wp_ret ?_
    have hz := step_all hs12
    refine ⟨_, (show Closes [] _ _ from rfl), [(Value.bool true)], ⟨rfl, trivial⟩, hs12.ext, ?_⟩
    exact Vr.eq (a := vB) (x := true) rfl (Option.some.inj hm)

end Go.Fx


