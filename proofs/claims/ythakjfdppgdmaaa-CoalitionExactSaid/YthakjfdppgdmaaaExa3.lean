/- Part 3 of the proof: what Blocks returns is a deviation that is better for all of the group, and if it returns nothing there is none, for every round, all slots and groups: the law CoalitionExact holds. -/
import Derived.Test.YthakjfdppgdmaaaExa2
set_option linter.unusedVariables false
set_option linter.unusedSimpArgs false
set_option maxRecDepth 100000
set_option maxHeartbeats 0
namespace Go.Fx
open Go Go.RowKit Go.Proofs
def m47_coalition_allowed_B0 (r_ : XRound) (slots : List Int) (sf11 : Int → Option Bool) (v_1 : Int) : Option Bool :=
  bif (decide (v_1 < (slots.length : Int))) then
    ck ((0 : Int) ≤ v_1 ∧ v_1 < (slots.length : Int)) <|
    jn (fun (v_2 : Bool) =>
      bif v_2 then
        some false
      else
        sf11 (IntKind.wrap .i64 (v_1 + 1)))
    (fun k30 =>
      bif (decide ((slots.getD v_1.toNat default) < 0)) then
        k30 true
      else
        bif (decide (r_.slots ≤ (slots.getD v_1.toNat default))) then
          k30 true
        else
          ck ((0 : Int) ≤ v_1 ∧ v_1 < (r_.costs.length : Int)) <|
          ck ((0 : Int) ≤ (slots.getD v_1.toNat default) ∧ (slots.getD v_1.toNat default) < ((r_.costs.getD v_1.toNat default).length : Int)) <|
          bif (decide (((r_.costs.getD v_1.toNat default).getD (slots.getD v_1.toNat default).toNat default) < 0)) then
            k30 true
          else
            ck ((0 : Int) ≤ v_1 ∧ v_1 ≤ (slots.length : Int)) <|
            (m43_slices_Containsint_int_ ((slots.drop 0).take (v_1.toNat - 0)) (slots.getD v_1.toNat default)).bind fun contains_1 =>
            k30 contains_1)
  else
    some true

def m47_coalition_allowed (r_ : XRound) (slots : List Int) : Option Bool :=
  bif (decide ((slots.length : Int) ≠ (r_.owners.length : Int))) then
    some false
  else
    loop1 (m47_coalition_allowed_B0 r_ slots) (((slots.length : Int) - 0).toNat + 1) 0

theorem c47_coalition_allowed {w : World} {O : List Nat} {r_ : XRound} {slots : List Int} {a_r__owners : Option Addr} {c_r__owners : Nat} {a_r__costs : Option Addr} {c_r__costs : Nat} {a_slots : Option Addr} {c_slots : Nat} (hO : ∀ k ∈ O, k < w.heap.size) (r_r__slots : InK .i64 r_.slots) (f_r__owners : SlR (rInt .i64) w O a_r__owners c_r__owners r_.owners) (f_r__costs : SlR (rSl (rInt .i64)) w O a_r__costs c_r__costs r_.costs) (f_slots : SlR (rInt .i64) w O a_slots c_slots slots) {x : Bool} (hm : m47_coalition_allowed r_ slots = some x) :
    Ok Try.prog 47 [(Value.agg [(Value.int .i64 r_.slots), (Value.slice a_r__owners r_.owners.length c_r__owners), (Value.slice a_r__costs r_.costs.length c_r__costs)].toArray), (Value.slice a_slots slots.length c_slots)] w O vB x := by
  unfold m47_coalition_allowed at hm
  refine Fn_of_Wp (n := 47) (xs := [.tmp 4]) Try.func47 rfl Try.ntmps47 Try.results47 rfl ?_
  have hs := St.start hO
  refine Wp_seq ?_
  refine Wp_region ?_  -- 0 coalition.go:26
  refine Rg_op rfl (op_box (cs := [(Value.int .i64 r_.slots), (Value.slice a_r__owners r_.owners.length c_r__owners), (Value.slice a_r__costs r_.costs.length c_r__costs)]) hs rfl rfl ?_)
  intro b1 w2 _ p3 hs4
  replace f_r__owners := f_r__owners.step p3
  replace f_r__costs := f_r__costs.step p3
  replace f_slots := f_slots.step p3
  clear p3
  refine Rg_op rfl (op_assign (v := (Value.bool false)) rfl ?_)
  refine Rg_nil ?_
  refine Wp_seq ?_
  refine Wp_seq ?_
  refine Wp_region ?_  -- 1 coalition.go:27
  refine Rg_op rfl (op_move (v := (Value.slice a_slots slots.length c_slots)) rfl ?_)
  refine Rg_op rfl (op_len Try.underlying22 rfl ?_)
  refine Rg_op rfl (op_fieldAddr ty25 rfl ty22 (by decide) rfl (rfl : _ = (⟨_, 1, none⟩ : Addr)) ?_)
  refine Rg_op rfl (op_load (cs := [(Value.int .i64 r_.slots), (Value.slice a_r__owners r_.owners.length c_r__owners), (Value.slice a_r__costs r_.costs.length c_r__costs)]) (i := 0) ty22 hs4 rfl rfl rfl ?_)
  refine Rg_op rfl (op_len Try.underlying22 rfl ?_)
  refine Rg_op rfl (op_neq rfl rfl ?_)
  refine Rg_nil ?_
  refine Wp_cond rfl (fun hc6 => ?_) (fun hc6 => ?_)
  ·
    replace hm := bif_t hm hc6
    refine Wp_seq ?_
    obtain ⟨hs7, p8⟩ := hs4.sub (bs' := []) (.cons _ List.Sublist.slnil)
    clear f_r__owners f_r__costs f_slots
    clear p8 hs4
    refine Wp_region ?_  -- 2 coalition.go:28
    refine Rg_op rfl (op_assign (v := (Value.bool false)) rfl ?_)
    refine Rg_nil ?_
    refine Wp_ret ?_
    have hz := step_all hs7
    refine ⟨_, (show Closes [] _ _ from rfl), [(Value.bool false)], ⟨rfl, trivial⟩, hs7.ext, ?_⟩
    exact Vr.eq (a := vB) (x := false) rfl (Option.some.inj hm)
  ·
    replace hm := bif_f hm hc6
    refine Wp_skip ?_
    refine Wp_seq ?_
    refine Wp_seq ?_
    refine Wp_region ?_  -- 3 coalition.go:30
    refine Rg_op rfl (op_move (v := (Value.slice a_slots slots.length c_slots)) rfl ?_)
    refine Rg_op rfl (op_len Try.underlying22 rfl ?_)
    refine Rg_op rfl (op_move (v := (Value.int .i64 0)) rfl ?_)
    refine Rg_nil ?_
    refine Wp_block ?_
    refine Wp_reset [] [(1, (Value.slice a_slots slots.length c_slots)), (2, (Value.pointer (some ⟨b1, 0, none⟩))), (13, (Value.slice a_slots slots.length c_slots)), (14, (Value.int .i64 (slots.length : Int))), (15, (Value.int .i64 0))] rfl ⟨rfl, rfl, rfl, rfl, rfl, trivial⟩ fun ξ10 => ?_
    refine Wp_loopM [4, 5, 6, 15, 16, 17, 18, 19, 20, 21, 22, 23, 24, 25, 26, 27, 28, 29, 30, 31, 32, 33, 34, 35, 36, 37, 38, 39, 40, 41, 42, 43, 44, 45, 46] (fun m fr w' => ∃ (v_1 : Int) (Ebs : Ents), Ebs = [(some b1, Obj.cells [(Value.int .i64 r_.slots), (Value.slice a_r__owners r_.owners.length c_r__owners), (Value.slice a_r__costs r_.costs.length c_r__costs)].toArray 25)] ∧ fr [] [(15, (Value.int .i64 v_1))] ∧ Step (ks [(some b1, Obj.cells [(Value.int .i64 r_.slots), (Value.slice a_r__owners r_.owners.length c_r__owners), (Value.slice a_r__costs r_.costs.length c_r__costs)].toArray 25)] O) w2 (ks Ebs O) w' ∧ St ⟨w, [], []⟩ O w' Ebs ∧ InK .i64 v_1 ∧ loop1 (m47_coalition_allowed_B0 r_ slots) m v_1 = some x) (((slots.length : Int) - 0).toNat + 1) ⟨0, _, rfl, ⟨Out.refl _ _, rfl, rfl, trivial⟩, Step.refl _ _, hs4, (show InK .i64 0 from by decide), hm⟩ ?_ ?_
    · rintro _ _ ⟨_, _, _, _, _, _, _, hm⟩; exact loop1_z hm
    · rintro m14 K13 hK13 ρ19 w15 ⟨v_1, Ebs, hEbs, hfr18, hst17, hs16, r_y9, hm⟩
      obtain ⟨sf11, hsf12, hm⟩ := loop1_s hm; unfold m47_coalition_allowed_B0 at hm
      subst hEbs; rw [hfr18.eq]; clear hfr18
      replace f_r__owners := f_r__owners.step hst17
      replace f_r__costs := f_r__costs.step hst17
      replace f_slots := f_slots.step hst17
      have ch20 := hst17
      refine Wp_seq ?_
      refine Wp_region ?_  -- 4 coalition.go:30
      refine Rg_op rfl (op_lss rfl rfl ?_)
      refine Rg_nil ?_
      refine Wp_seq ?_
      refine Wp_cond rfl (fun hc21 => ?_) (fun hc21 => ?_)
      ·
        replace hm := bif_t hm hc21
        refine Wp_skip ?_
        refine Wp_seq ?_
        refine Wp_block ?_
        refine Wp_seq ?_
        refine Wp_region ?_  -- 5 coalition.go:30
        refine Rg_op rfl (op_move (v := (Value.int .i64 v_1)) rfl ?_)
        replace hm := ck_some hm; obtain ⟨hc22, hm⟩ := hm
        refine Rg_op rfl (op_indexAddr (q := (rInt .i64)) ty22 ty3 rfl rfl f_slots rfl hc22.1 hc22.2 ?_)
        intro p23 f24
        refine Rg_op rfl (op_loadP ty3 rfl f24 rfl ?_)
        intro v25 h26
        obtain ⟨rfl, r_y27⟩ := un_int h26
        refine Rg_op rfl (op_assign (v := (Value.int .i64 v_1)) rfl ?_)
        refine Rg_op rfl (op_assign (v := (Value.int .i64 (slots.getD v_1.toNat default))) rfl ?_)
        refine Rg_nil ?_
        refine Wp_reset2 [4, 5, 6, 15, 16, 17, 18, 19, 20, 21, 22, 23, 24, 25, 26, 27, 28, 29, 30, 31, 32, 33, 34, 35, 36, 37, 38, 39, 40, 41, 42, 43, 44, 45, 46] [] (updL ⟨ξ10, []⟩ [(1, (Value.slice a_slots slots.length c_slots)), (2, (Value.pointer (some ⟨b1, 0, none⟩))), (13, (Value.slice a_slots slots.length c_slots)), (14, (Value.int .i64 (slots.length : Int))), (15, (Value.int .i64 0))]) [(5, (Value.int .i64 v_1)), (6, (Value.int .i64 (slots.getD v_1.toNat default))), (15, (Value.int .i64 v_1))] (by repeat (first | with_reducible exact Out.refl _ _ | refine Out.upd ?_ rfl | refine Out.updL ?_ rfl | refine Out.mix' ?_ rfl | exact Out.refl _ _)) rfl ⟨rfl, rfl, rfl, trivial⟩ fun ξ28 => ?_
        replace hm := jn_elim hm; obtain ⟨k30, hk31, hm⟩ := hm
        refine Wp_seqJ [20, 21, 22, 23, 24, 25, 26, 27, 28, 29, 30, 31, 32, 33, 34, 35, 36, 37, 38, 39, 40, 41, 42, 43, 44, 45] (fun fr w' => ∃ (v_2 : Bool) (Ebs : Ents), Ebs = [(some b1, Obj.cells [(Value.int .i64 r_.slots), (Value.slice a_r__owners r_.owners.length c_r__owners), (Value.slice a_r__costs r_.costs.length c_r__costs)].toArray 25)] ∧ fr [] [(45, (Value.bool v_2))] ∧ Step (ks [(some b1, Obj.cells [(Value.int .i64 r_.slots), (Value.slice a_r__owners r_.owners.length c_r__owners), (Value.slice a_r__costs r_.costs.length c_r__costs)].toArray 25)] O) w15 (ks Ebs O) w' ∧ St ⟨w, [], []⟩ O w' Ebs ∧ k30 v_2 = some x) ?_ ?_
        ·
          rintro ρ37 w33 ⟨v_2, Ebs, hEbs, hfr36, hst35, hs34, hm⟩
          replace hm := jnE1 hk31 hm
          subst hEbs; rw [hfr36.eq]; clear hfr36
          replace f_r__owners := f_r__owners.step hst35
          replace f_r__costs := f_r__costs.step hst35
          replace f_slots := f_slots.step hst35
          replace f24 := f24.step hst35
          replace ch20 := ch20.trans hst35
          clear hst35 hs16
          refine Wp_cond rfl (fun hc38 => ?_) (fun hc38 => ?_)
          ·
            replace hm := bif_t hm hc38
            refine Wp_seq ?_
            clear f_slots f24
            refine Wp_region ?_  -- 7 coalition.go:32
            refine Rg_op rfl (op_assign (v := (Value.bool false)) rfl ?_)
            refine Rg_nil ?_
            refine Wp_ret ?_
            have hz := step_all hs34
            replace f_r__owners := f_r__owners.step hz
            replace f_r__costs := f_r__costs.step hz
            refine ⟨_, (show Closes [] _ _ from rfl), [(Value.bool false)], ⟨rfl, trivial⟩, hs34.ext, ?_⟩
            exact Vr.eq (a := vB) (x := false) rfl (Option.some.inj hm)
          ·
            replace hm := bif_f hm hc38
            refine Wp_skip ?_
            clear f24
            refine Wp_region ?_  -- 8 coalition.go:30
            refine Rg_op rfl (op_addw rfl rfl ?_)
            refine Rg_op rfl (op_move (v := (Value.int .i64 (IntKind.wrap .i64 (v_1 + 1)))) rfl ?_)
            refine Rg_nil ?_
            exact hK13 _ _ ⟨(IntKind.wrap .i64 (v_1 + 1)), _, rfl, ⟨(by repeat (first | with_reducible exact Out.refl _ _ | refine Out.upd ?_ rfl | refine Out.updL ?_ rfl | refine Out.mix' ?_ rfl | exact Out.refl _ _)), rfl, rfl, trivial⟩, ch20, hs34, (inK_wrap .i64 _), jnE1 hsf12 hm⟩
        ·
          intro K32 hK32
          have ch39 := Step.refl (ks [(some b1, Obj.cells [(Value.int .i64 r_.slots), (Value.slice a_r__owners r_.owners.length c_r__owners), (Value.slice a_r__costs r_.costs.length c_r__costs)].toArray 25)] O) w15
          clear f24
          refine Wp_region ?_  -- 6 coalition.go:31
          refine Rg_op rfl (op_move (v := (Value.int .i64 (slots.getD v_1.toNat default))) rfl ?_)
          refine Rg_op rfl (op_lss rfl rfl ?_)
          refine Rg_op rfl (op_move (v := (Value.bool (decide ((slots.getD v_1.toNat default) < 0)))) rfl ?_)
          refine Rg_case (fun hg40 => ?_) (fun hg40 => ?_)
          ·
            replace hm := bif_t hm hg40
            refine Rg_opx rfl (asB_ne rfl rfl) rfl ?_
            refine Rg_opx rfl (asB_ne rfl rfl) rfl ?_
            refine Rg_opx rfl (asB_ne rfl rfl) rfl ?_
            refine Rg_opx rfl (asB_ne rfl rfl) rfl ?_
            refine Rg_op rfl (op_pick_t (v := (Value.bool true)) rfl rfl ?_)
            refine Rg_op rfl (op_move (v := (Value.bool true)) rfl ?_)
            refine Rg_opx rfl (asB_ne rfl rfl) rfl ?_
            refine Rg_opx rfl (asB_ne rfl rfl) rfl ?_
            refine Rg_opx rfl (asB_ne rfl rfl) rfl ?_
            refine Rg_opx rfl (asB_ne rfl rfl) rfl ?_
            refine Rg_opx rfl (asB_ne rfl rfl) rfl ?_
            refine Rg_opx rfl (asB_ne rfl rfl) rfl ?_
            refine Rg_opx rfl (asB_ne rfl rfl) rfl ?_
            refine Rg_opx rfl (asB_ne rfl rfl) rfl ?_
            refine Rg_opx rfl (asB_ne rfl rfl) rfl ?_
            refine Rg_op rfl (op_pick_t (v := (Value.bool true)) rfl rfl ?_)
            refine Rg_op rfl (op_move (v := (Value.bool true)) rfl ?_)
            refine Rg_opx rfl (asB_ne rfl rfl) rfl ?_
            refine Rg_opx rfl (asB_ne rfl rfl) rfl ?_
            refine Rg_opx rfl (asB_ne rfl rfl) rfl ?_
            refine Rg_opx rfl (asB_ne rfl rfl) rfl ?_
            refine Rg_opx rfl (asB_ne rfl rfl) rfl ?_
            refine Rg_op rfl (op_pick_t (v := (Value.bool true)) rfl rfl ?_)
            refine Rg_nil ?_
            exact hK32 _ _ ⟨true, _, rfl, ⟨(by repeat (first | with_reducible exact Out.refl _ _ | refine Out.upd ?_ rfl | refine Out.updL ?_ rfl | refine Out.mix' ?_ rfl | exact Out.refl _ _)), rfl, rfl, trivial⟩, ch39, hs16, hm⟩
          ·
            replace hm := bif_f hm hg40
            refine Rg_opg rfl rfl rfl (op_move (v := (Value.int .i64 (slots.getD v_1.toNat default))) rfl ?_)
            refine Rg_opg rfl rfl rfl (op_fieldAddr ty25 rfl ty3 (by decide) rfl (rfl : _ = (⟨_, 0, none⟩ : Addr)) ?_)
            refine Rg_opg rfl rfl rfl (op_load (cs := [(Value.int .i64 r_.slots), (Value.slice a_r__owners r_.owners.length c_r__owners), (Value.slice a_r__costs r_.costs.length c_r__costs)]) (i := 0) ty3 hs16 rfl rfl rfl ?_)
            refine Rg_opg rfl rfl rfl (op_geq rfl rfl ?_)
            refine Rg_op rfl (op_pick_f (v := (Value.bool (decide (r_.slots ≤ (slots.getD v_1.toNat default))))) rfl rfl ?_)
            refine Rg_op rfl (op_move (v := (Value.bool (decide (r_.slots ≤ (slots.getD v_1.toNat default))))) rfl ?_)
            refine Rg_case (fun hg41 => ?_) (fun hg41 => ?_)
            ·
              replace hm := bif_t hm hg41
              refine Rg_opx rfl (asB_ne rfl rfl) rfl ?_
              refine Rg_opx rfl (asB_ne rfl rfl) rfl ?_
              refine Rg_opx rfl (asB_ne rfl rfl) rfl ?_
              refine Rg_opx rfl (asB_ne rfl rfl) rfl ?_
              refine Rg_opx rfl (asB_ne rfl rfl) rfl ?_
              refine Rg_opx rfl (asB_ne rfl rfl) rfl ?_
              refine Rg_opx rfl (asB_ne rfl rfl) rfl ?_
              refine Rg_opx rfl (asB_ne rfl rfl) rfl ?_
              refine Rg_opx rfl (asB_ne rfl rfl) rfl ?_
              refine Rg_op rfl (op_pick_t (v := (Value.bool true)) rfl rfl ?_)
              refine Rg_op rfl (op_move (v := (Value.bool true)) rfl ?_)
              refine Rg_opx rfl (asB_ne rfl rfl) rfl ?_
              refine Rg_opx rfl (asB_ne rfl rfl) rfl ?_
              refine Rg_opx rfl (asB_ne rfl rfl) rfl ?_
              refine Rg_opx rfl (asB_ne rfl rfl) rfl ?_
              refine Rg_opx rfl (asB_ne rfl rfl) rfl ?_
              refine Rg_op rfl (op_pick_t (v := (Value.bool true)) rfl rfl ?_)
              refine Rg_nil ?_
              exact hK32 _ _ ⟨true, _, rfl, ⟨(by repeat (first | with_reducible exact Out.refl _ _ | refine Out.upd ?_ rfl | refine Out.updL ?_ rfl | refine Out.mix' ?_ rfl | exact Out.refl _ _)), rfl, rfl, trivial⟩, ch39, hs16, hm⟩
            ·
              replace hm := bif_f hm hg41
              refine Rg_opg rfl rfl rfl (op_fieldAddr ty25 rfl ty23 (by decide) rfl (rfl : _ = (⟨_, 2, none⟩ : Addr)) ?_)
              refine Rg_opg rfl rfl rfl (op_load (cs := [(Value.int .i64 r_.slots), (Value.slice a_r__owners r_.owners.length c_r__owners), (Value.slice a_r__costs r_.costs.length c_r__costs)]) (i := 0) ty23 hs16 rfl rfl rfl ?_)
              refine Rg_opg rfl rfl rfl (op_move (v := (Value.int .i64 v_1)) rfl ?_)
              replace hm := ck_some hm; obtain ⟨hc42, hm⟩ := hm
              refine Rg_opg rfl rfl rfl (op_indexAddr (q := (rSl (rInt .i64))) ty23 ty22 rfl rfl f_r__costs rfl hc42.1 hc42.2 ?_)
              intro p43 f44
              refine Rg_opg rfl rfl rfl (op_loadP ty22 rfl f44 rfl ?_)
              intro v45 h46
              obtain ⟨a_y47, c_y47, rfl, f_y47⟩ := un_sl h46
              refine Rg_opg rfl rfl rfl (op_move (v := (Value.int .i64 (slots.getD v_1.toNat default))) rfl ?_)
              replace hm := ck_some hm; obtain ⟨hc48, hm⟩ := hm
              refine Rg_opg rfl rfl rfl (op_indexAddr (q := (rInt .i64)) ty22 ty3 rfl rfl f_y47 rfl hc48.1 hc48.2 ?_)
              intro p49 f50
              refine Rg_opg rfl rfl rfl (op_loadP ty3 rfl f50 rfl ?_)
              intro v51 h52
              obtain ⟨rfl, r_y53⟩ := un_int h52
              refine Rg_opg rfl rfl rfl (op_lss rfl rfl ?_)
              refine Rg_op rfl (op_pick_f (v := (Value.bool (decide (((r_.costs.getD v_1.toNat default).getD (slots.getD v_1.toNat default).toNat default) < 0)))) rfl rfl ?_)
              refine Rg_op rfl (op_move (v := (Value.bool (decide (((r_.costs.getD v_1.toNat default).getD (slots.getD v_1.toNat default).toNat default) < 0)))) rfl ?_)
              refine Rg_case (fun hg54 => ?_) (fun hg54 => ?_)
              ·
                replace hm := bif_t hm hg54
                refine Rg_opx rfl (asB_ne rfl rfl) rfl ?_
                refine Rg_opx rfl (asB_ne rfl rfl) rfl ?_
                refine Rg_opx rfl (asB_ne rfl rfl) rfl ?_
                refine Rg_opx rfl (asB_ne rfl rfl) rfl ?_
                refine Rg_opx rfl (asB_ne rfl rfl) rfl ?_
                refine Rg_op rfl (op_pick_t (v := (Value.bool true)) rfl rfl ?_)
                refine Rg_nil ?_
                exact hK32 _ _ ⟨true, _, rfl, ⟨(by repeat (first | with_reducible exact Out.refl _ _ | refine Out.upd ?_ rfl | refine Out.updL ?_ rfl | refine Out.mix' ?_ rfl | exact Out.refl _ _)), rfl, rfl, trivial⟩, ch39, hs16, hm⟩
              ·
                replace hm := bif_f hm hg54
                refine Rg_opg rfl rfl rfl (op_move (v := (Value.slice a_slots slots.length c_slots)) rfl ?_)
                refine Rg_opg rfl rfl rfl (op_move (v := (Value.int .i64 v_1)) rfl ?_)
                replace hm := ck_some hm; obtain ⟨hc55, hm⟩ := hm
                refine Rg_opg rfl rfl rfl (op_slice (q := (rInt .i64)) (l := 0) (h := v_1.toNat) (m := c_slots) ty22 ty3 rfl f_slots rfl rfl (bndI rfl (by omega)) rfl (by decide) (by omega) (by omega) (by have := f_slots.le; omega) (by have := f_slots.le; omega) ?_)
                intro a56 f57
                refine Rg_opg rfl rfl rfl (op_move (v := (Value.int .i64 (slots.getD v_1.toNat default))) rfl ?_)
                replace hm := bd hm; obtain ⟨contains_1, hv58, hm⟩ := hm
                refine Rg_opg rfl rfl rfl (op_call Try.call43 (c43_slices_Containsint_int_ (s := ((slots.drop 0).take (v_1.toNat - 0))) (v := (slots.getD v_1.toNat default)) hs16.ltw f57 r_y27 hv58) rfl ?_)
                rintro v59 w60 ⟨hx61, h62⟩
                have hs63 := hs16.call hx61
                have p64 := Step.ext (O := ks [(some b1, Obj.cells [(Value.int .i64 r_.slots), (Value.slice a_r__owners r_.owners.length c_r__owners), (Value.slice a_r__costs r_.costs.length c_r__costs)].toArray 25)] O) hx61
                clear hx61
                replace f_r__owners := f_r__owners.step p64
                replace f_r__costs := f_r__costs.step p64
                replace f_slots := f_slots.step p64
                replace f44 := f44.step p64
                replace f_y47 := f_y47.step p64
                replace f50 := f50.step p64
                replace f57 := f57.step p64
                replace ch20 := ch20.trans p64
                replace ch39 := ch39.trans p64
                clear p64 hs16
                obtain rfl := h62
                refine Rg_op rfl (op_pick_f (v := (Value.bool contains_1)) rfl rfl ?_)
                refine Rg_nil ?_
                exact hK32 _ _ ⟨contains_1, _, rfl, ⟨(by repeat (first | with_reducible exact Out.refl _ _ | refine Out.upd ?_ rfl | refine Out.updL ?_ rfl | refine Out.mix' ?_ rfl | exact Out.refl _ _)), rfl, rfl, trivial⟩, ch39, hs63, hm⟩
      ·
        replace hm := bif_f hm hc21
        refine Wp_exit ?_
        refine Wp_seq ?_
        obtain ⟨hs66, p67⟩ := hs16.sub (bs' := []) (.cons _ List.Sublist.slnil)
        clear f_r__owners f_r__costs f_slots
        replace ch20 := ch20.trans p67
        clear p67 hs16
        refine Wp_region ?_  -- 9 coalition.go:35
        refine Rg_op rfl (op_assign (v := (Value.bool true)) rfl ?_)
        refine Rg_nil ?_
        refine Wp_ret ?_
        have hz := step_all hs66
        refine ⟨_, (show Closes [] _ _ from rfl), [(Value.bool true)], ⟨rfl, trivial⟩, hs66.ext, ?_⟩
        exact Vr.eq (a := vB) (x := true) rfl (Option.some.inj hm)

end Go.Fx


set_option linter.unusedVariables false
set_option linter.unusedSimpArgs false
set_option maxRecDepth 100000
set_option maxHeartbeats 0
namespace Go.Fx
open Go Go.RowKit Go.Proofs
def m24_coalition_Allowed (r_ : XRound) (slots : List Int) : Option (Bool × Int) :=
  (m22_coalition_Check r_).bind fun check_1 =>
  bif (decide (check_1 ≠ 0)) then
    some (false, check_1)
  else
    (m47_coalition_allowed r_ slots).bind fun allowed_1 =>
    some (allowed_1, 0)

theorem c24_coalition_Allowed {w : World} {O : List Nat} {r_ : XRound} {slots : List Int} {a_r__owners : Option Addr} {c_r__owners : Nat} {a_r__costs : Option Addr} {c_r__costs : Nat} {a_slots : Option Addr} {c_slots : Nat} (hO : ∀ k ∈ O, k < w.heap.size) (r_r__slots : InK .i64 r_.slots) (f_r__owners : SlR (rInt .i64) w O a_r__owners c_r__owners r_.owners) (f_r__costs : SlR (rSl (rInt .i64)) w O a_r__costs c_r__costs r_.costs) (f_slots : SlR (rInt .i64) w O a_slots c_slots slots) {x : Bool × Int} (hm : m24_coalition_Allowed r_ slots = some x) :
    Ok Try.prog 24 [(Value.agg [(Value.int .i64 r_.slots), (Value.slice a_r__owners r_.owners.length c_r__owners), (Value.slice a_r__costs r_.costs.length c_r__costs)].toArray), (Value.slice a_slots slots.length c_slots)] w O (vT2 vB (vI .i64)) x := by
  unfold m24_coalition_Allowed at hm
  refine Fn_of_Wp (n := 15) (xs := [.tmp 4, .tmp 5]) Try.func24 rfl Try.ntmps24 Try.results24 rfl ?_
  have hs := St.start hO
  refine Wp_seq ?_
  refine Wp_region ?_  -- 0 coalition.go:39
  refine Rg_op rfl (op_box (cs := [(Value.int .i64 r_.slots), (Value.slice a_r__owners r_.owners.length c_r__owners), (Value.slice a_r__costs r_.costs.length c_r__costs)]) hs rfl rfl ?_)
  intro b1 w2 _ p3 hs4
  replace f_r__owners := f_r__owners.step p3
  replace f_r__costs := f_r__costs.step p3
  replace f_slots := f_slots.step p3
  clear p3
  refine Rg_op rfl (op_assign (v := (Value.bool false)) rfl ?_)
  refine Rg_op rfl (op_assign (v := (Value.int .i64 0)) rfl ?_)
  refine Rg_nil ?_
  refine Wp_seq ?_
  refine Wp_seq ?_
  refine Wp_region ?_  -- 1 coalition.go:40
  refine Rg_op rfl (op_loadA (cs := [(Value.int .i64 r_.slots), (Value.slice a_r__owners r_.owners.length c_r__owners), (Value.slice a_r__costs r_.costs.length c_r__costs)]) (vs := [(Value.int .i64 r_.slots), (Value.slice a_r__owners r_.owners.length c_r__owners), (Value.slice a_r__costs r_.costs.length c_r__costs)]) (i := 0) ty25 hs4 rfl rfl rfl rfl ?_)
  replace hm := bd hm; obtain ⟨check_1, hv6, hm⟩ := hm
  refine Rg_op rfl (op_call Try.call22 (c22_coalition_Check (r_ := r_) hs4.ltw r_r__slots f_r__owners f_r__costs hv6) rfl ?_)
  rintro v7 w8 ⟨hx9, h10⟩
  have hs11 := hs4.call hx9
  have p12 := Step.ext (O := ks [(some b1, Obj.cells [(Value.int .i64 r_.slots), (Value.slice a_r__owners r_.owners.length c_r__owners), (Value.slice a_r__costs r_.costs.length c_r__costs)].toArray 25)] O) hx9
  clear hx9
  replace f_r__owners := f_r__owners.step p12
  replace f_r__costs := f_r__costs.step p12
  replace f_slots := f_slots.step p12
  clear p12 hs4
  obtain ⟨rfl, r_y13⟩ := h10
  refine Rg_op rfl (op_assign (v := (Value.int .i64 check_1)) rfl ?_)
  refine Rg_nil ?_
  refine Wp_seq ?_
  refine Wp_region ?_  -- 2 coalition.go:40
  refine Rg_op rfl (op_move (v := (Value.int .i64 check_1)) rfl ?_)
  refine Rg_op rfl (op_neq rfl rfl ?_)
  refine Rg_nil ?_
  refine Wp_cond rfl (fun hc14 => ?_) (fun hc14 => ?_)
  ·
    replace hm := bif_t hm hc14
    refine Wp_seq ?_
    obtain ⟨hs15, p16⟩ := hs11.sub (bs' := []) (.cons _ List.Sublist.slnil)
    clear f_r__owners f_r__costs f_slots
    clear p16 hs11
    refine Wp_region ?_  -- 3 coalition.go:41
    refine Rg_op rfl (op_move (v := (Value.int .i64 check_1)) rfl ?_)
    refine Rg_op rfl (op_assign (v := (Value.bool false)) rfl ?_)
    refine Rg_op rfl (op_assign (v := (Value.int .i64 check_1)) rfl ?_)
    refine Rg_nil ?_
    refine Wp_ret ?_
    have hz := step_all hs15
    refine ⟨_, (show Closes [] _ _ from rfl), [(Value.bool false), (Value.int .i64 check_1)], ⟨rfl, rfl, trivial⟩, hs15.ext, ?_⟩
    exact Vr.eq (a := (vT2 vB (vI .i64))) (x := (false, check_1)) (mkT2 rfl ⟨rfl, r_y13⟩) (Option.some.inj hm)
  ·
    replace hm := bif_f hm hc14
    refine Wp_skip ?_
    refine Wp_seq ?_
    refine Wp_region ?_  -- 4 coalition.go:43
    refine Rg_op rfl (op_loadA (cs := [(Value.int .i64 r_.slots), (Value.slice a_r__owners r_.owners.length c_r__owners), (Value.slice a_r__costs r_.costs.length c_r__costs)]) (vs := [(Value.int .i64 r_.slots), (Value.slice a_r__owners r_.owners.length c_r__owners), (Value.slice a_r__costs r_.costs.length c_r__costs)]) (i := 0) ty25 hs11 rfl rfl rfl rfl ?_)
    refine Rg_op rfl (op_move (v := (Value.slice a_slots slots.length c_slots)) rfl ?_)
    replace hm := bd hm; obtain ⟨allowed_1, hv17, hm⟩ := hm
    refine Rg_op rfl (op_call Try.call47 (c47_coalition_allowed (r_ := r_) (slots := slots) hs11.ltw r_r__slots f_r__owners f_r__costs f_slots hv17) rfl ?_)
    rintro v18 w19 ⟨hx20, h21⟩
    have hs22 := hs11.call hx20
    have p23 := Step.ext (O := ks [(some b1, Obj.cells [(Value.int .i64 r_.slots), (Value.slice a_r__owners r_.owners.length c_r__owners), (Value.slice a_r__costs r_.costs.length c_r__costs)].toArray 25)] O) hx20
    clear hx20
    replace f_r__owners := f_r__owners.step p23
    replace f_r__costs := f_r__costs.step p23
    replace f_slots := f_slots.step p23
    clear p23 hs11
    obtain rfl := h21
    refine Rg_op rfl (op_assign (v := (Value.bool allowed_1)) rfl ?_)
    refine Rg_op rfl (op_assign (v := (Value.int .i64 0)) rfl ?_)
    refine Rg_nil ?_
    refine Wp_ret ?_
    have hz := step_all hs22
    replace f_r__owners := f_r__owners.step hz
    replace f_r__costs := f_r__costs.step hz
    replace f_slots := f_slots.step hz
    refine ⟨_, (show Closes [] _ _ from rfl), [(Value.bool allowed_1), (Value.int .i64 0)], ⟨rfl, rfl, trivial⟩, hs22.ext, ?_⟩
    exact Vr.eq (a := (vT2 vB (vI .i64))) (x := (allowed_1, 0)) (mkT2 rfl ⟨rfl, (show InK .i64 0 from by decide)⟩) (Option.some.inj hm)

end Go.Fx


set_option linter.unusedVariables false
set_option linter.unusedSimpArgs false
set_option maxRecDepth 100000
set_option maxHeartbeats 0
namespace Go.Fx
open Go Go.RowKit Go.Proofs
def m39_coalition_check (r_ : XRound) (slots : List Int) : Option Int :=
  (m24_coalition_Allowed r_ slots).bind fun allowed_1 =>
  jn (fun (v_1 : Bool) =>
    bif v_1 then
      some 370
    else
      some 0)
  (fun k21 =>
    bif (decide (allowed_1.2 ≠ 0)) then
      k21 true
    else
      k21 (!allowed_1.1))

theorem c39_coalition_check {w : World} {O : List Nat} {r_ : XRound} {slots : List Int} {a_r__owners : Option Addr} {c_r__owners : Nat} {a_r__costs : Option Addr} {c_r__costs : Nat} {a_slots : Option Addr} {c_slots : Nat} (hO : ∀ k ∈ O, k < w.heap.size) (r_r__slots : InK .i64 r_.slots) (f_r__owners : SlR (rInt .i64) w O a_r__owners c_r__owners r_.owners) (f_r__costs : SlR (rSl (rInt .i64)) w O a_r__costs c_r__costs r_.costs) (f_slots : SlR (rInt .i64) w O a_slots c_slots slots) {x : Int} (hm : m39_coalition_check r_ slots = some x) :
    Ok Try.prog 39 [(Value.agg [(Value.int .i64 r_.slots), (Value.slice a_r__owners r_.owners.length c_r__owners), (Value.slice a_r__costs r_.costs.length c_r__costs)].toArray), (Value.slice a_slots slots.length c_slots)] w O (vI .i64) x := by
  unfold m39_coalition_check at hm
  refine Fn_of_Wp (n := 19) (xs := [.tmp 4]) Try.func39 rfl Try.ntmps39 Try.results39 rfl ?_
  have hs := St.start hO
  refine Wp_seq ?_
  refine Wp_region ?_  -- 0 coalition.go:47
  refine Rg_op rfl (op_box (cs := [(Value.int .i64 r_.slots), (Value.slice a_r__owners r_.owners.length c_r__owners), (Value.slice a_r__costs r_.costs.length c_r__costs)]) hs rfl rfl ?_)
  intro b1 w2 _ p3 hs4
  replace f_r__owners := f_r__owners.step p3
  replace f_r__costs := f_r__costs.step p3
  replace f_slots := f_slots.step p3
  clear p3
  refine Rg_op rfl (op_assign (v := (Value.int .i64 0)) rfl ?_)
  refine Rg_nil ?_
  refine Wp_seq ?_
  refine Wp_seq ?_
  refine Wp_region ?_  -- 1 coalition.go:48
  refine Rg_op rfl (op_loadA (cs := [(Value.int .i64 r_.slots), (Value.slice a_r__owners r_.owners.length c_r__owners), (Value.slice a_r__costs r_.costs.length c_r__costs)]) (vs := [(Value.int .i64 r_.slots), (Value.slice a_r__owners r_.owners.length c_r__owners), (Value.slice a_r__costs r_.costs.length c_r__costs)]) (i := 0) ty25 hs4 rfl rfl rfl rfl ?_)
  refine Rg_op rfl (op_move (v := (Value.slice a_slots slots.length c_slots)) rfl ?_)
  replace hm := bd hm; obtain ⟨allowed_1, hv6, hm⟩ := hm
  refine Rg_op rfl (op_call Try.call24 (c24_coalition_Allowed (r_ := r_) (slots := slots) hs4.ltw r_r__slots f_r__owners f_r__costs f_slots hv6) rfl ?_)
  rintro v7 w8 ⟨hx9, h10⟩
  have hs11 := hs4.call hx9
  have p12 := Step.ext (O := ks [(some b1, Obj.cells [(Value.int .i64 r_.slots), (Value.slice a_r__owners r_.owners.length c_r__owners), (Value.slice a_r__costs r_.costs.length c_r__costs)].toArray 25)] O) hx9
  clear hx9
  replace f_r__owners := f_r__owners.step p12
  replace f_r__costs := f_r__costs.step p12
  replace f_slots := f_slots.step p12
  clear p12 hs4
  obtain ⟨v13, v14, rfl, h15, h16⟩ := h10
  obtain rfl := h15
  obtain ⟨rfl, r_y18⟩ := h16
  refine Rg_op rfl (op_move (v := (Value.tuple [(Value.bool allowed_1.1), (Value.int .i64 allowed_1.2)].toArray)) rfl ?_)
  refine Rg_op rfl (op_extract (v := (Value.bool allowed_1.1)) rfl rfl ?_)
  refine Rg_op rfl (op_extract (v := (Value.int .i64 allowed_1.2)) rfl rfl ?_)
  refine Rg_op rfl (op_assign (v := (Value.bool allowed_1.1)) rfl ?_)
  refine Rg_op rfl (op_assign (v := (Value.int .i64 allowed_1.2)) rfl ?_)
  refine Rg_nil ?_
  refine Wp_reset [] [(5, (Value.bool allowed_1.1)), (6, (Value.int .i64 allowed_1.2))] rfl ⟨rfl, rfl, trivial⟩ fun ξ19 => ?_
  replace hm := jn_elim hm; obtain ⟨k21, hk22, hm⟩ := hm
  refine Wp_seqJ [13, 14, 15, 16, 17, 18] (fun fr w' => ∃ (v_1 : Bool) (Ebs : Ents), Ebs = [(some b1, Obj.cells [(Value.int .i64 r_.slots), (Value.slice a_r__owners r_.owners.length c_r__owners), (Value.slice a_r__costs r_.costs.length c_r__costs)].toArray 25)] ∧ fr [] [(18, (Value.bool v_1))] ∧ Step (ks [(some b1, Obj.cells [(Value.int .i64 r_.slots), (Value.slice a_r__owners r_.owners.length c_r__owners), (Value.slice a_r__costs r_.costs.length c_r__costs)].toArray 25)] O) w8 (ks Ebs O) w' ∧ St ⟨w, [], []⟩ O w' Ebs ∧ k21 v_1 = some x) ?_ ?_
  ·
    rintro ρ28 w24 ⟨v_1, Ebs, hEbs, hfr27, hst26, hs25, hm⟩
    replace hm := jnE1 hk22 hm
    subst hEbs; rw [hfr27.eq]; clear hfr27
    replace f_r__owners := f_r__owners.step hst26
    replace f_r__costs := f_r__costs.step hst26
    replace f_slots := f_slots.step hst26
    clear hst26 hs11
    refine Wp_cond rfl (fun hc29 => ?_) (fun hc29 => ?_)
    ·
      replace hm := bif_t hm hc29
      refine Wp_seq ?_
      obtain ⟨hs30, p31⟩ := hs25.sub (bs' := []) (.cons _ List.Sublist.slnil)
      clear f_r__owners f_r__costs f_slots
      clear p31 hs25
      refine Wp_region ?_  -- 3 coalition.go:49
      refine Rg_op rfl (op_assign (v := (Value.int .i64 370)) rfl ?_)
      refine Rg_nil ?_
      refine Wp_ret ?_
      have hz := step_all hs30
      refine ⟨_, (show Closes [] _ _ from rfl), [(Value.int .i64 370)], ⟨rfl, trivial⟩, hs30.ext, ?_⟩
      exact Vr.eq (a := (vI .i64)) (x := 370) ⟨rfl, (show InK .i64 370 from by decide)⟩ (Option.some.inj hm)
    ·
      replace hm := bif_f hm hc29
      refine Wp_skip ?_
      refine Wp_seq ?_
      obtain ⟨hs32, p33⟩ := hs25.sub (bs' := []) (.cons _ List.Sublist.slnil)
      clear f_r__owners f_r__costs f_slots
      clear p33 hs25
      refine Wp_region ?_  -- 4 coalition.go:51
      refine Rg_op rfl (op_assign (v := (Value.int .i64 0)) rfl ?_)
      refine Rg_nil ?_
      refine Wp_ret ?_
      have hz := step_all hs32
      refine ⟨_, (show Closes [] _ _ from rfl), [(Value.int .i64 0)], ⟨rfl, trivial⟩, hs32.ext, ?_⟩
      exact Vr.eq (a := (vI .i64)) (x := 0) ⟨rfl, (show InK .i64 0 from by decide)⟩ (Option.some.inj hm)
  ·
    intro K23 hK23
    have ch34 := Step.refl (ks [(some b1, Obj.cells [(Value.int .i64 r_.slots), (Value.slice a_r__owners r_.owners.length c_r__owners), (Value.slice a_r__costs r_.costs.length c_r__costs)].toArray 25)] O) w8
    clear f_slots
    refine Wp_region ?_  -- 2 coalition.go:48
    refine Rg_op rfl (op_move (v := (Value.int .i64 allowed_1.2)) rfl ?_)
    refine Rg_op rfl (op_neq rfl rfl ?_)
    refine Rg_op rfl (op_move (v := (Value.bool (decide (allowed_1.2 ≠ 0)))) rfl ?_)
    refine Rg_case (fun hg35 => ?_) (fun hg35 => ?_)
    ·
      replace hm := bif_t hm hg35
      refine Rg_opx rfl (asB_ne rfl rfl) rfl ?_
      refine Rg_opx rfl (asB_ne rfl rfl) rfl ?_
      refine Rg_op rfl (op_pick_t (v := (Value.bool true)) rfl rfl ?_)
      refine Rg_nil ?_
      exact hK23 _ _ ⟨true, _, rfl, ⟨(by repeat (first | with_reducible exact Out.refl _ _ | refine Out.upd ?_ rfl | refine Out.updL ?_ rfl | refine Out.mix' ?_ rfl | exact Out.refl _ _)), rfl, rfl, trivial⟩, ch34, hs11, hm⟩
    ·
      replace hm := bif_f hm hg35
      refine Rg_opg rfl rfl rfl (op_move (v := (Value.bool allowed_1.1)) rfl ?_)
      refine Rg_opg rfl rfl rfl (op_not rfl ?_)
      refine Rg_op rfl (op_pick_f (v := (Value.bool (!allowed_1.1))) rfl rfl ?_)
      refine Rg_nil ?_
      exact hK23 _ _ ⟨(!allowed_1.1), _, rfl, ⟨(by repeat (first | with_reducible exact Out.refl _ _ | refine Out.upd ?_ rfl | refine Out.updL ?_ rfl | refine Out.mix' ?_ rfl | exact Out.refl _ _)), rfl, rfl, trivial⟩, ch34, hs11, hm⟩

end Go.Fx


set_option linter.unusedVariables false
set_option linter.unusedSimpArgs false
set_option maxRecDepth 100000
set_option maxHeartbeats 0
namespace Go.Fx
open Go Go.RowKit Go.Proofs
def m41_coalition_costs_B0 (r_ : XRound) (flights : List Int) (slots : List Int) (sf17 : (List Int) → Int → Option (List Int)) (out_1 : List Int) (v_1 : Int) : Option (List Int) :=
  bif (decide (v_1 < (flights.length : Int))) then
    ck ((0 : Int) ≤ v_1 ∧ v_1 < (flights.length : Int)) <|
    ck ((0 : Int) ≤ (flights.getD v_1.toNat default) ∧ (flights.getD v_1.toNat default) < (r_.owners.length : Int)) <|
    ck ((0 : Int) ≤ (r_.owners.getD (flights.getD v_1.toNat default).toNat default) ∧ (r_.owners.getD (flights.getD v_1.toNat default).toNat default) < (out_1.length : Int)) <|
    ck ((0 : Int) ≤ (flights.getD v_1.toNat default) ∧ (flights.getD v_1.toNat default) < (r_.costs.length : Int)) <|
    ck ((0 : Int) ≤ v_1 ∧ v_1 < (slots.length : Int)) <|
    ck ((0 : Int) ≤ (slots.getD v_1.toNat default) ∧ (slots.getD v_1.toNat default) < ((r_.costs.getD (flights.getD v_1.toNat default).toNat default).length : Int)) <|
    ck ((0 : Int) ≤ (r_.owners.getD (flights.getD v_1.toNat default).toNat default) ∧ (r_.owners.getD (flights.getD v_1.toNat default).toNat default) < (out_1.length : Int)) <|
    sf17 (out_1.set (r_.owners.getD (flights.getD v_1.toNat default).toNat default).toNat (IntKind.wrap .i64 ((out_1.getD (r_.owners.getD (flights.getD v_1.toNat default).toNat default).toNat default) + ((r_.costs.getD (flights.getD v_1.toNat default).toNat default).getD (slots.getD v_1.toNat default).toNat default)))) (IntKind.wrap .i64 (v_1 + 1))
  else
    some out_1

def m41_coalition_costs (r_ : XRound) (flights : List Int) (slots : List Int) : Option (List Int) :=
  ck ((0 : Int) ≤ (8 : Int) ∧ (8 : Int) ≤ (8 : Int) ∧ (8 : Int) * 8 ≤ 281474976710656 ∧ (8 : Int) ≤ 281474976710656) <|
  loop2 (m41_coalition_costs_B0 r_ flights slots) (((flights.length : Int) - 0).toNat + 1) (List.replicate 8 (0 : Int)) 0

theorem g41_coalition_costs {w : World} {O : List Nat} {r_ : XRound} {flights : List Int} {slots : List Int} {a_r__owners : Option Addr} {c_r__owners : Nat} {a_r__costs : Option Addr} {c_r__costs : Nat} {a_flights : Option Addr} {c_flights : Nat} {a_slots : Option Addr} {c_slots : Nat} (hO : ∀ k ∈ O, k < w.heap.size) (r_r__slots : InK .i64 r_.slots) (f_r__owners : SlR (rInt .i64) w O a_r__owners c_r__owners r_.owners) (f_r__costs : SlR (rSl (rInt .i64)) w O a_r__costs c_r__costs r_.costs) (f_flights : SlR (rInt .i64) w O a_flights c_flights flights) (f_slots : SlR (rInt .i64) w O a_slots c_slots slots) {x : (List Int)} (hm : m41_coalition_costs r_ flights slots = some x) :
    OkG Try.prog 41 [(Value.agg [(Value.int .i64 r_.slots), (Value.slice a_r__owners r_.owners.length c_r__owners), (Value.slice a_r__costs r_.costs.length c_r__costs)].toArray), (Value.slice a_flights flights.length c_flights), (Value.slice a_slots slots.length c_slots)] w O (rInt .i64) 3 x := by
  unfold m41_coalition_costs at hm
  refine Fn_of_Wp (n := 41) (xs := [.tmp 6]) Try.func41 rfl Try.ntmps41 Try.results41 rfl ?_
  have hs := St.start hO
  refine Wp_seq ?_
  refine Wp_region ?_  -- 0 coalition.go:55
  refine Rg_op rfl (op_box (cs := [(Value.int .i64 r_.slots), (Value.slice a_r__owners r_.owners.length c_r__owners), (Value.slice a_r__costs r_.costs.length c_r__costs)]) hs rfl rfl ?_)
  intro b1 w2 _ p3 hs4
  replace f_r__owners := f_r__owners.step p3
  replace f_r__costs := f_r__costs.step p3
  replace f_flights := f_flights.step p3
  replace f_slots := f_slots.step p3
  clear p3
  refine Rg_op rfl (op_assign (v := (Value.slice none 0 0)) rfl ?_)
  refine Rg_nil ?_
  refine Wp_seq ?_
  refine Wp_region ?_  -- 1 coalition.go:56
  replace hm := ck_some hm; obtain ⟨hc6, hm⟩ := hm
  refine Rg_op rfl (op_makeSliceI (q := (rInt .i64)) (v := (Value.int .i64 0)) (x0 := (0 : Int)) ty22 ty3 hs4 rfl rfl hc6 rfl (fun _ _ => (mk_int (show InK .i64 0 from by decide))) ?_)
  intro b7 w8 hx12 p9 hs10 f11
  replace f_r__owners := f_r__owners.step p9
  replace f_r__costs := f_r__costs.step p9
  replace f_flights := f_flights.step p9
  replace f_slots := f_slots.step p9
  clear p9 hs4
  refine Rg_op rfl (op_assign (v := (Value.slice (some ⟨b7, 0, none⟩) (List.replicate 8 (0 : Int)).length 8)) rfl ?_)
  refine Rg_nil ?_
  refine Wp_seq ?_
  refine Wp_seq ?_
  refine Wp_region ?_  -- 2 coalition.go:57
  refine Rg_op rfl (op_move (v := (Value.slice a_flights flights.length c_flights)) rfl ?_)
  refine Rg_op rfl (op_len Try.underlying22 rfl ?_)
  refine Rg_op rfl (op_move (v := (Value.int .i64 0)) rfl ?_)
  refine Rg_nil ?_
  refine Wp_block ?_
  refine Wp_reset [] [(2, (Value.slice a_slots slots.length c_slots)), (3, (Value.pointer (some ⟨b1, 0, none⟩))), (7, (Value.slice (some ⟨b7, 0, none⟩) (List.replicate 8 (0 : Int)).length 8)), (11, (Value.slice a_flights flights.length c_flights)), (12, (Value.int .i64 (flights.length : Int))), (13, (Value.int .i64 0))] rfl ⟨rfl, rfl, rfl, rfl, rfl, rfl, trivial⟩ fun ξ16 => ?_
  refine Wp_loopM [7, 8, 9, 13, 14, 15, 16, 17, 18, 19, 20, 21, 22, 23, 24, 25, 26, 27, 28, 29, 30, 31, 32, 33, 34, 35, 36, 37, 38, 39] (fun m fr w' => ∃ (out_1 : List Int) (v_1 : Int) (a_g14 : Option Addr) (c_g14 : Nat) (k_g14 : Option Nat) (o_g14 : Obj) (Ebs : Ents), Ebs = [(k_g14, o_g14), (some b1, Obj.cells [(Value.int .i64 r_.slots), (Value.slice a_r__owners r_.owners.length c_r__owners), (Value.slice a_r__costs r_.costs.length c_r__costs)].toArray 25)] ∧ fr [] [(7, (Value.slice a_g14 out_1.length c_g14)), (13, (Value.int .i64 v_1))] ∧ Step (ks [(some b7, Obj.cells (List.replicate 8 (Value.int .i64 0)).toArray 3), (some b1, Obj.cells [(Value.int .i64 r_.slots), (Value.slice a_r__owners r_.owners.length c_r__owners), (Value.slice a_r__costs r_.costs.length c_r__costs)].toArray 25)] O) w8 (ks Ebs O) w' ∧ St ⟨w, [], []⟩ O w' Ebs ∧ Gs (rInt .i64) 3 w' (ks Ebs O) a_g14 c_g14 out_1 k_g14 o_g14 ∧ InK .i64 v_1 ∧ loop2 (m41_coalition_costs_B0 r_ flights slots) m out_1 v_1 = some x) (((flights.length : Int) - 0).toNat + 1) ⟨(List.replicate 8 (0 : Int)), 0, (some ⟨b7, 0, none⟩), 8, (some b7), (Obj.cells (List.replicate 8 (Value.int .i64 0)).toArray 3), _, rfl, ⟨Out.refl _ _, rfl, rfl, rfl, trivial⟩, Step.refl _ _, hs10, f11, (show InK .i64 0 from by decide), hm⟩ ?_ ?_
  · rintro _ _ ⟨_, _, _, _, _, _, _, _, _, _, _, _, _, hm⟩; exact loop2_z hm
  · rintro m20 K19 hK19 ρ25 w21 ⟨out_1, v_1, a_g14, c_g14, k_g14, o_g14, Ebs, hEbs, hfr24, hst23, hs22, f_g14, r_y15, hm⟩
    obtain ⟨sf17, hsf18, hm⟩ := loop2_s hm; unfold m41_coalition_costs_B0 at hm
    subst hEbs; rw [hfr24.eq]; clear hfr24
    replace f_r__owners := f_r__owners.step hst23
    replace f_r__costs := f_r__costs.step hst23
    replace f_flights := f_flights.step hst23
    replace f_slots := f_slots.step hst23
    replace f11 := f11.step hst23
    have ch26 := hst23
    refine Wp_seq ?_
    clear f11
    refine Wp_region ?_  -- 3 coalition.go:57
    refine Rg_op rfl (op_lss rfl rfl ?_)
    refine Rg_nil ?_
    refine Wp_seq ?_
    refine Wp_cond rfl (fun hc27 => ?_) (fun hc27 => ?_)
    ·
      replace hm := bif_t hm hc27
      refine Wp_skip ?_
      refine Wp_seq ?_
      refine Wp_block ?_
      refine Wp_seq ?_
      refine Wp_region ?_  -- 4 coalition.go:57
      refine Rg_op rfl (op_move (v := (Value.int .i64 v_1)) rfl ?_)
      replace hm := ck_some hm; obtain ⟨hc28, hm⟩ := hm
      refine Rg_op rfl (op_indexAddr (q := (rInt .i64)) ty22 ty3 rfl rfl f_flights rfl hc28.1 hc28.2 ?_)
      intro p29 f30
      refine Rg_op rfl (op_loadP ty3 rfl f30 rfl ?_)
      intro v31 h32
      obtain ⟨rfl, r_y33⟩ := un_int h32
      refine Rg_op rfl (op_assign (v := (Value.int .i64 v_1)) rfl ?_)
      refine Rg_op rfl (op_assign (v := (Value.int .i64 (flights.getD v_1.toNat default))) rfl ?_)
      refine Rg_nil ?_
      clear f30
      refine Wp_drawR (g0 := []) (m := 19) (fl := []) (TS_inv hs22) (.inl rfl) rfl (by decide +kernel) ?_  -- 5
      refine Dw_eq (Value.slice a_g14 out_1.length c_g14) (fun ρ34 w35 g hle hi ht => ?_) ?_
      ·
        obtain ⟨-, hst, -⟩ := hle
        refine StepOp_plain (op_move (v := (Value.slice a_g14 out_1.length c_g14)) (ht 7 rfl) ?_)
        exact Goes.same hi rfl
      refine Dw_eq (Value.pointer (some ⟨b1, 1, none⟩)) (fun ρ37 w38 g hle hi ht => ?_) ?_
      ·
        obtain ⟨-, hst, -⟩ := hle
        refine StepOp_plain (op_fieldAddr ty25 rfl ty22 (by decide) (ht 3 rfl) (rfl : _ = (⟨_, 1, none⟩ : Addr)) ?_)
        exact Goes.same hi rfl
      refine Dw_eq (Value.slice a_r__owners r_.owners.length c_r__owners) (fun ρ40 w41 g hle hi ht => ?_) ?_
      ·
        obtain ⟨-, hst, -⟩ := hle
        have hsn := (Step.nx hi).1
        refine StepOp_plain (op_load (cs := [(Value.int .i64 r_.slots), (Value.slice a_r__owners r_.owners.length c_r__owners), (Value.slice a_r__costs r_.costs.length c_r__costs)]) (i := 1) ty22 hsn (ht 19 rfl) rfl rfl ?_)
        exact Goes.same hi rfl
      refine Dw_eq (Value.int .i64 (flights.getD v_1.toNat default)) (fun ρ43 w44 g hle hi ht => ?_) ?_
      ·
        obtain ⟨-, hst, -⟩ := hle
        refine StepOp_plain (op_move (v := (Value.int .i64 (flights.getD v_1.toNat default))) (ht 9 rfl) ?_)
        exact Goes.same hi rfl
      replace hm := ck_some hm; obtain ⟨hc49, hm⟩ := hm
      refine Dw_op (VP O [(k_g14, o_g14), (some b1, Obj.cells [(Value.int .i64 r_.slots), (Value.slice a_r__owners r_.owners.length c_r__owners), (Value.slice a_r__costs r_.costs.length c_r__costs)].toArray 25)] (rInt .i64) (r_.owners.getD (flights.getD v_1.toNat default).toNat default)) (VP.stab _ _) (fun ρ46 w47 g hle hi ht => ?_) ?_
      ·
        obtain ⟨-, hst, -⟩ := hle
        replace f_r__owners := f_r__owners.step hst
        refine StepOp_plain (op_indexAddr (q := (rInt .i64)) ty22 ty3 (ht 20 rfl) (ht 21 rfl) f_r__owners rfl hc49.1 hc49.2 ?_)
        intro p50 f51
        exact Goes.same hi ⟨_, rfl, f51⟩
      refine Dw_op (VD O [(k_g14, o_g14), (some b1, Obj.cells [(Value.int .i64 r_.slots), (Value.slice a_r__owners r_.owners.length c_r__owners), (Value.slice a_r__costs r_.costs.length c_r__costs)].toArray 25)] (vI .i64) (r_.owners.getD (flights.getD v_1.toNat default).toNat default)) (VD.stab _ _) (fun ρ52 w53 g hle hi ht => ?_) ?_
      ·
        obtain ⟨-, hst, -⟩ := hle
        obtain ⟨p55, q56, f57⟩ := ht 22 rfl
        refine StepOp_plain (op_loadP ty3 q56 f57 rfl ?_)
        intro v58 h59
        obtain ⟨rfl, r_y60⟩ := un_int h59
        exact Goes.same hi (show Vr.vd (vI .i64) _ _ _ _ from ⟨rfl, r_y60⟩)
      replace hm := ck_some hm; obtain ⟨hc67, hm⟩ := hm
      obtain ⟨b68, rfl, rfl⟩ := f_g14.at_ (by omega)
      refine Dw_eq (Value.pointer (some ⟨b68, (r_.owners.getD (flights.getD v_1.toNat default).toNat default).toNat * 1, none⟩)) (fun ρ61 w62 g hle hi ht => ?_) ?_
      ·
        obtain ⟨-, hst, -⟩ := hle
        replace f_g14 := f_g14.step hst
        have h64 : Vr.vd (vI .i64) _ _ _ _ := ht 23 rfl
        obtain ⟨q65, r_y66⟩ := h64
        refine StepOp_plain (op_indexAddrG ty22 ty3 (ht 18 rfl) q65 f_g14 hc67 ?_)
        rintro _ ⟨⟩ -
        exact Goes.same hi rfl
      refine Dw_op (VD O [(some b68, o_g14), (some b1, Obj.cells [(Value.int .i64 r_.slots), (Value.slice a_r__owners r_.owners.length c_r__owners), (Value.slice a_r__costs r_.costs.length c_r__costs)].toArray 25)] (vI .i64) (out_1.getD (r_.owners.getD (flights.getD v_1.toNat default).toNat default).toNat default)) (VD.stab _ _) (fun ρ69 w70 g hle hi ht => ?_) ?_
      ·
        obtain ⟨-, hst, -⟩ := hle
        replace f_g14 := f_g14.step hst
        have hsn := (Step.nx hi).1
        refine StepOp_plain (op_loadG (i := 0) ty3 rfl hsn rfl (ht 24 rfl) f_g14 hc67 ?_)
        intro v72 h73
        obtain ⟨rfl, r_y74⟩ := un_int h73
        exact Goes.same hi (show Vr.vd (vI .i64) _ _ _ _ from ⟨rfl, r_y74⟩)
      refine Dw_eq (Value.pointer (some ⟨b1, 2, none⟩)) (fun ρ75 w76 g hle hi ht => ?_) ?_
      ·
        obtain ⟨-, hst, -⟩ := hle
        refine StepOp_plain (op_fieldAddr ty25 rfl ty23 (by decide) (ht 3 rfl) (rfl : _ = (⟨_, 2, none⟩ : Addr)) ?_)
        exact Goes.same hi rfl
      refine Dw_eq (Value.slice a_r__costs r_.costs.length c_r__costs) (fun ρ78 w79 g hle hi ht => ?_) ?_
      ·
        obtain ⟨-, hst, -⟩ := hle
        have hsn := (Step.nx hi).1
        refine StepOp_plain (op_load (cs := [(Value.int .i64 r_.slots), (Value.slice a_r__owners r_.owners.length c_r__owners), (Value.slice a_r__costs r_.costs.length c_r__costs)]) (i := 1) ty23 hsn (ht 26 rfl) rfl rfl ?_)
        exact Goes.same hi rfl
      refine Dw_eq (Value.int .i64 (flights.getD v_1.toNat default)) (fun ρ81 w82 g hle hi ht => ?_) ?_
      ·
        obtain ⟨-, hst, -⟩ := hle
        refine StepOp_plain (op_move (v := (Value.int .i64 (flights.getD v_1.toNat default))) (ht 9 rfl) ?_)
        exact Goes.same hi rfl
      replace hm := ck_some hm; obtain ⟨hc87, hm⟩ := hm
      refine Dw_op (VP O [(some b68, o_g14), (some b1, Obj.cells [(Value.int .i64 r_.slots), (Value.slice a_r__owners r_.owners.length c_r__owners), (Value.slice a_r__costs r_.costs.length c_r__costs)].toArray 25)] (rSl (rInt .i64)) (r_.costs.getD (flights.getD v_1.toNat default).toNat default)) (VP.stab _ _) (fun ρ84 w85 g hle hi ht => ?_) ?_
      ·
        obtain ⟨-, hst, -⟩ := hle
        replace f_r__costs := f_r__costs.step hst
        refine StepOp_plain (op_indexAddr (q := (rSl (rInt .i64))) ty23 ty22 (ht 27 rfl) (ht 28 rfl) f_r__costs rfl hc87.1 hc87.2 ?_)
        intro p88 f89
        exact Goes.same hi ⟨_, rfl, f89⟩
      refine Dw_op (VD O [(some b68, o_g14), (some b1, Obj.cells [(Value.int .i64 r_.slots), (Value.slice a_r__owners r_.owners.length c_r__owners), (Value.slice a_r__costs r_.costs.length c_r__costs)].toArray 25)] (vC (rSl (rInt .i64))) (r_.costs.getD (flights.getD v_1.toNat default).toNat default)) (VD.stab _ _) (fun ρ90 w91 g hle hi ht => ?_) ?_
      ·
        obtain ⟨-, hst, -⟩ := hle
        obtain ⟨p93, q94, f95⟩ := ht 29 rfl
        refine StepOp_plain (op_loadP ty22 q94 f95 rfl ?_)
        intro v96 h97
        obtain ⟨a_y98, c_y98, rfl, f_y98⟩ := un_sl h97
        exact Goes.same hi (show Vr.vd (vC (rSl (rInt .i64))) _ _ _ _ from (mkC (mk_sl f_y98)))
      refine Dw_eq (Value.slice a_slots slots.length c_slots) (fun ρ99 w100 g hle hi ht => ?_) ?_
      ·
        obtain ⟨-, hst, -⟩ := hle
        refine StepOp_plain (op_move (v := (Value.slice a_slots slots.length c_slots)) (ht 2 rfl) ?_)
        exact Goes.same hi rfl
      refine Dw_eq (Value.int .i64 v_1) (fun ρ102 w103 g hle hi ht => ?_) ?_
      ·
        obtain ⟨-, hst, -⟩ := hle
        refine StepOp_plain (op_move (v := (Value.int .i64 v_1)) (ht 8 rfl) ?_)
        exact Goes.same hi rfl
      replace hm := ck_some hm; obtain ⟨hc108, hm⟩ := hm
      refine Dw_op (VP O [(some b68, o_g14), (some b1, Obj.cells [(Value.int .i64 r_.slots), (Value.slice a_r__owners r_.owners.length c_r__owners), (Value.slice a_r__costs r_.costs.length c_r__costs)].toArray 25)] (rInt .i64) (slots.getD v_1.toNat default)) (VP.stab _ _) (fun ρ105 w106 g hle hi ht => ?_) ?_
      ·
        obtain ⟨-, hst, -⟩ := hle
        replace f_slots := f_slots.step hst
        refine StepOp_plain (op_indexAddr (q := (rInt .i64)) ty22 ty3 (ht 31 rfl) (ht 32 rfl) f_slots rfl hc108.1 hc108.2 ?_)
        intro p109 f110
        exact Goes.same hi ⟨_, rfl, f110⟩
      refine Dw_op (VD O [(some b68, o_g14), (some b1, Obj.cells [(Value.int .i64 r_.slots), (Value.slice a_r__owners r_.owners.length c_r__owners), (Value.slice a_r__costs r_.costs.length c_r__costs)].toArray 25)] (vI .i64) (slots.getD v_1.toNat default)) (VD.stab _ _) (fun ρ111 w112 g hle hi ht => ?_) ?_
      ·
        obtain ⟨-, hst, -⟩ := hle
        obtain ⟨p114, q115, f116⟩ := ht 33 rfl
        refine StepOp_plain (op_loadP ty3 q115 f116 rfl ?_)
        intro v117 h118
        obtain ⟨rfl, r_y119⟩ := un_int h118
        exact Goes.same hi (show Vr.vd (vI .i64) _ _ _ _ from ⟨rfl, r_y119⟩)
      replace hm := ck_some hm; obtain ⟨hc129, hm⟩ := hm
      refine Dw_op (VP O [(some b68, o_g14), (some b1, Obj.cells [(Value.int .i64 r_.slots), (Value.slice a_r__owners r_.owners.length c_r__owners), (Value.slice a_r__costs r_.costs.length c_r__costs)].toArray 25)] (rInt .i64) ((r_.costs.getD (flights.getD v_1.toNat default).toNat default).getD (slots.getD v_1.toNat default).toNat default)) (VP.stab _ _) (fun ρ120 w121 g hle hi ht => ?_) ?_
      ·
        obtain ⟨-, hst, -⟩ := hle
        have h123 : Vr.vd (vC (rSl (rInt .i64))) _ _ _ _ := ht 30 rfl
        obtain ⟨a_y125, c_y125, q124, f_y125⟩ := un_sl h123
        have h126 : Vr.vd (vI .i64) _ _ _ _ := ht 34 rfl
        obtain ⟨q127, r_y128⟩ := h126
        refine StepOp_plain (op_indexAddr (q := (rInt .i64)) ty22 ty3 q124 q127 f_y125 rfl hc129.1 hc129.2 ?_)
        intro p130 f131
        exact Goes.same hi ⟨_, rfl, f131⟩
      refine Dw_op (VD O [(some b68, o_g14), (some b1, Obj.cells [(Value.int .i64 r_.slots), (Value.slice a_r__owners r_.owners.length c_r__owners), (Value.slice a_r__costs r_.costs.length c_r__costs)].toArray 25)] (vI .i64) ((r_.costs.getD (flights.getD v_1.toNat default).toNat default).getD (slots.getD v_1.toNat default).toNat default)) (VD.stab _ _) (fun ρ132 w133 g hle hi ht => ?_) ?_
      ·
        obtain ⟨-, hst, -⟩ := hle
        obtain ⟨p135, q136, f137⟩ := ht 35 rfl
        refine StepOp_plain (op_loadP ty3 q136 f137 rfl ?_)
        intro v138 h139
        obtain ⟨rfl, r_y140⟩ := un_int h139
        exact Goes.same hi (show Vr.vd (vI .i64) _ _ _ _ from ⟨rfl, r_y140⟩)
      refine Dw_nil fun w145 g146 hl147 hi148 => ?_
      obtain ⟨-, hst149, -⟩ := hl147
      obtain ⟨hs151, p150⟩ := Step.nx hi148
      rintro v152 h153
      replace h153 : Vr.vd (vI .i64) _ _ _ _ := h153
      obtain ⟨rfl, r_y154⟩ := h153
      rintro _ ⟨p155, rfl, f156⟩
      rintro v157 h158
      replace h158 : Vr.vd (vI .i64) _ _ _ _ := h158
      obtain ⟨rfl, r_y159⟩ := h158
      rintro _ ⟨p160, rfl, f161⟩
      rintro _ rfl
      rintro _ rfl
      rintro v162 h163
      replace h163 : Vr.vd (vC (rSl (rInt .i64))) _ _ _ _ := h163
      obtain ⟨a_y164, c_y164, rfl, f_y164⟩ := un_sl h163
      rintro _ ⟨p165, rfl, f166⟩
      rintro _ rfl
      rintro _ rfl
      rintro _ rfl
      rintro v167 h168
      replace h168 : Vr.vd (vI .i64) _ _ _ _ := h168
      obtain ⟨rfl, r_y169⟩ := h168
      rintro _ rfl
      rintro v170 h171
      replace h171 : Vr.vd (vI .i64) _ _ _ _ := h171
      obtain ⟨rfl, r_y172⟩ := h171
      rintro _ ⟨p173, rfl, f174⟩
      rintro _ rfl
      rintro _ rfl
      rintro _ rfl
      rintro _ rfl
      have p175 : Step (ks [(some b68, o_g14), (some b1, Obj.cells [(Value.int .i64 r_.slots), (Value.slice a_r__owners r_.owners.length c_r__owners), (Value.slice a_r__costs r_.costs.length c_r__costs)].toArray 25)] O) w21 (ks [(some b68, o_g14), (some b1, Obj.cells [(Value.int .i64 r_.slots), (Value.slice a_r__owners r_.owners.length c_r__owners), (Value.slice a_r__costs r_.costs.length c_r__costs)].toArray 25)] O) w145 := hst149.trans p150
      replace f156 := f156.step p150
      replace f161 := f161.step p150
      replace f_y164 := f_y164.step p150
      replace f166 := f166.step p150
      replace f174 := f174.step p150
      replace f_r__owners := f_r__owners.step p175
      replace f_r__costs := f_r__costs.step p175
      replace f_flights := f_flights.step p175
      replace f_slots := f_slots.step p175
      replace f_g14 := f_g14.step p175
      replace ch26 := ch26.trans p175
      clear p175 hs22
      refine Rg_op rfl (op_addw rfl rfl ?_)
      replace hm := ck_some hm; obtain ⟨hc176, hm⟩ := hm
      refine Rg_op rfl (op_indexAddrG ty22 ty3 rfl rfl f_g14 hc176 ?_)
      rintro _ ⟨⟩ -
      refine Rg_op_ (op_storeG (vs := [(Value.int .i64 (IntKind.wrap .i64 ((out_1.getD (r_.owners.getD (flights.getD v_1.toNat default).toNat default).toNat default) + ((r_.costs.getD (flights.getD v_1.toNat default).toNat default).getD (slots.getD v_1.toNat default).toNat default))))]) (i := 0) ty3 rfl hs151 rfl rfl rfl rfl f_g14 hc176 (mk_int (inK_wrap .i64 _)) ?_)
      intro w178 o181 p179 hs180 f182
      replace f_r__owners := f_r__owners.step p179
      replace f_r__costs := f_r__costs.step p179
      replace f_flights := f_flights.step p179
      replace f_slots := f_slots.step p179
      replace f156 := f156.step p179
      replace f161 := f161.step p179
      replace f_y164 := f_y164.step p179
      replace f166 := f166.step p179
      replace f174 := f174.step p179
      replace ch26 := ch26.trans p179
      clear p179 hs151
      refine Rg_nil ?_
      clear f156 f161 f_y164 f166 f174
      refine Wp_region ?_  -- 6 coalition.go:57
      refine Rg_op rfl (op_addw rfl rfl ?_)
      refine Rg_op rfl (op_move (v := (Value.int .i64 (IntKind.wrap .i64 (v_1 + 1)))) rfl ?_)
      refine Rg_nil ?_
      exact hK19 _ _ ⟨(out_1.set (r_.owners.getD (flights.getD v_1.toNat default).toNat default).toNat (IntKind.wrap .i64 ((out_1.getD (r_.owners.getD (flights.getD v_1.toNat default).toNat default).toNat default) + ((r_.costs.getD (flights.getD v_1.toNat default).toNat default).getD (slots.getD v_1.toNat default).toNat default)))), (IntKind.wrap .i64 (v_1 + 1)), (some ⟨b68, 0, none⟩), c_g14, (some b68), o181, _, rfl, ⟨(by repeat (first | with_reducible exact Out.refl _ _ | refine Out.upd ?_ rfl | refine Out.updL ?_ rfl | refine Out.mix' ?_ rfl | exact Out.refl _ _)), rfl, (eqlenV (show out_1.length = (out_1.set (r_.owners.getD (flights.getD v_1.toNat default).toNat default).toNat (IntKind.wrap .i64 ((out_1.getD (r_.owners.getD (flights.getD v_1.toNat default).toNat default).toNat default) + ((r_.costs.getD (flights.getD v_1.toNat default).toNat default).getD (slots.getD v_1.toNat default).toNat default)))).length from by first | (simp; done) | (simp; omega))), rfl, trivial⟩, ch26, hs180, f182, (inK_wrap .i64 _), jnE2 hsf18 hm⟩
    ·
      replace hm := bif_f hm hc27
      refine Wp_exit ?_
      refine Wp_seq ?_
      obtain ⟨hs183, p184⟩ := hs22.sub (bs' := [(k_g14, o_g14)]) (.cons_cons _ (.cons _ List.Sublist.slnil))
      clear f_r__owners f_r__costs f_flights f_slots
      replace f_g14 := f_g14.step p184
      replace ch26 := ch26.trans p184
      clear p184 hs22
      refine Wp_region ?_  -- 7 coalition.go:60
      refine Rg_op rfl (op_move (v := (Value.slice a_g14 out_1.length c_g14)) rfl ?_)
      refine Rg_op rfl (op_assign (v := (Value.slice a_g14 out_1.length c_g14)) rfl ?_)
      refine Rg_nil ?_
      refine Wp_ret ?_
      refine ⟨_, (show Closes [] _ _ from rfl), [(Value.slice a_g14 out_1.length c_g14)], ⟨rfl, trivial⟩, hs183.ext, ?_⟩
      exact OkG.mk (i := 0) hs183 rfl f_g14 (Option.some.inj hm)
theorem c41_coalition_costs {w : World} {O : List Nat} {r_ : XRound} {flights : List Int} {slots : List Int} {a_r__owners : Option Addr} {c_r__owners : Nat} {a_r__costs : Option Addr} {c_r__costs : Nat} {a_flights : Option Addr} {c_flights : Nat} {a_slots : Option Addr} {c_slots : Nat} (hO : ∀ k ∈ O, k < w.heap.size) (r_r__slots : InK .i64 r_.slots) (f_r__owners : SlR (rInt .i64) w O a_r__owners c_r__owners r_.owners) (f_r__costs : SlR (rSl (rInt .i64)) w O a_r__costs c_r__costs r_.costs) (f_flights : SlR (rInt .i64) w O a_flights c_flights flights) (f_slots : SlR (rInt .i64) w O a_slots c_slots slots) {x : (List Int)} (hm : m41_coalition_costs r_ flights slots = some x) :
    Ok Try.prog 41 [(Value.agg [(Value.int .i64 r_.slots), (Value.slice a_r__owners r_.owners.length c_r__owners), (Value.slice a_r__costs r_.costs.length c_r__costs)].toArray), (Value.slice a_flights flights.length c_flights), (Value.slice a_slots slots.length c_slots)] w O (vC (rSl (rInt .i64))) x :=
  (g41_coalition_costs hO r_r__slots f_r__owners f_r__costs f_flights f_slots hm).ok hO

end Go.Fx


set_option linter.unusedVariables false
set_option linter.unusedSimpArgs false
set_option maxRecDepth 100000
set_option maxHeartbeats 0
namespace Go.Fx
open Go Go.RowKit Go.Proofs
def m58_slices_Cloneint_int_ (s : List Int) : Option (List Int) :=
  ck ((([] : List Int).length + s.length) * 8 ≤ 140737488355328) <|
  some (([] : List Int) ++ s)

theorem g58_slices_Cloneint_int_ {w : World} {O : List Nat} {s : List Int} {a_s : Option Addr} {c_s : Nat} (hO : ∀ k ∈ O, k < w.heap.size) (f_s : SlR (rInt .i64) w O a_s c_s s) {x : (List Int)} (hm : m58_slices_Cloneint_int_ s = some x) :
    OkG Try.prog 58 [(Value.slice a_s s.length c_s)] w O (rInt .i64) 3 x := by
  unfold m58_slices_Cloneint_int_ at hm
  refine Fn_of_Wp (n := 8) (xs := [.tmp 2]) Try.func58 rfl Try.ntmps58 Try.results58 rfl ?_
  have hs := St.start hO
  refine Wp_seq ?_
  refine Wp_region ?_  -- 0 slices.go:355
  refine Rg_op rfl (op_assign (v := (Value.slice none 0 0)) rfl ?_)
  refine Rg_nil ?_
  refine Wp_seq ?_
  refine Wp_seq ?_
  refine Wp_region ?_  -- 1 slices.go:357
  refine Rg_op rfl (op_move (v := (Value.slice a_s s.length c_s)) rfl ?_)
  refine Rg_op rfl (op_eqnil Try.underlying22 rfl rfl ?_)
  refine Rg_nil ?_
  rcases a_s with _ | ad1
  ·
    have hnil2 := (f_s.nil rfl).1
    refine Wp_cond_t rfl ?_
    refine Wp_seq ?_
    clear f_s
    refine Wp_region ?_  -- 2 slices.go:358
    refine Rg_op rfl (op_assign (v := (Value.slice none 0 0)) rfl ?_)
    refine Rg_nil ?_
    refine Wp_ret ?_
    refine ⟨_, (show Closes [] _ _ from rfl), [(Value.slice none 0 0)], ⟨rfl, trivial⟩, hs.ext, ?_⟩
    exact OkG.mkNil (by simp [ck, hnil2] at hm; first | exact hm | (subst hm; simp [hnil2]) | simpa using hm)
  ·
    refine Wp_cond_f rfl ?_
    refine Wp_skip ?_
    refine Wp_seq ?_
    refine Wp_region ?_  -- 3 slices.go:362
    refine Rg_op rfl (op_buildSlice (cs := []) (parts := []) ty22 ty3 hs (by decide) rfl ?_)
    intro b3 w4 hx7 p5 hs6
    replace f_s := f_s.step p5
    clear p5
    refine Rg_op rfl (op_move (v := (Value.slice (some ad1) s.length c_s)) rfl ?_)
    have f9 := Gs.of_cells (p := (rInt .i64)) (e := 3) (bl := b3) (c := 0) (w := w4) (O := ks [(some b3, Obj.cells [].toArray 3)] O) (show Els (rInt .i64) _ _ [] [] from Els.nil) rfl (le_lit rfl)
    replace hm := ck_some hm; obtain ⟨hc10, hm⟩ := hm
    obtain ⟨ns11, he12, hr13⟩ := f_s.src
    refine Rg_op rfl (op_append (q := (rInt .i64)) (i := 0) (xs := ([] : List Int)) (ys := s) (news := ns11) ty22 ty3 rfl (by decide) hs6 rfl rfl f9 rfl hr13 he12 hc10 (by have := hc10; simp only [maxLen]; omega) ?_)
    intro a17 c18 k19 o20 w14 p15 hs16 f21
    replace f_s := f_s.step p15
    clear p15 hs6
    refine Rg_op rfl (op_assign (v := (Value.slice a17 (([] : List Int) ++ s).length c18)) rfl ?_)
    refine Rg_nil ?_
    refine Wp_ret ?_
    refine ⟨_, (show Closes [] _ _ from rfl), [(Value.slice a17 (([] : List Int) ++ s).length c18)], ⟨rfl, trivial⟩, hs16.ext, ?_⟩
    exact OkG.mk (i := 0) hs16 rfl f21 (Option.some.inj hm)
theorem c58_slices_Cloneint_int_ {w : World} {O : List Nat} {s : List Int} {a_s : Option Addr} {c_s : Nat} (hO : ∀ k ∈ O, k < w.heap.size) (f_s : SlR (rInt .i64) w O a_s c_s s) {x : (List Int)} (hm : m58_slices_Cloneint_int_ s = some x) :
    Ok Try.prog 58 [(Value.slice a_s s.length c_s)] w O (vC (rSl (rInt .i64))) x :=
  (g58_slices_Cloneint_int_ hO f_s hm).ok hO

end Go.Fx


set_option linter.unusedVariables false
set_option linter.unusedSimpArgs false
set_option maxRecDepth 100000
set_option maxHeartbeats 0
namespace Go.Fx
open Go Go.RowKit Go.Proofs
def m80_coalition_deviations_1_1_B0 (begin : List Int) (fv0_ : List Int) (fv2_ : XRound) (fv3_ : (List Int) → Option (List (List Int))) (sf63 : Int → Option (List (List Int))) (v_1 : Int) : Option (List (List Int)) :=
  bif (decide (v_1 < (fv0_.length : Int))) then
    ck ((0 : Int) ≤ v_1 ∧ v_1 < (fv0_.length : Int)) <|
    ck ((0 : Int) ≤ (begin.length : Int) ∧ (begin.length : Int) < (fv0_.length : Int)) <|
    ck ((0 : Int) ≤ (fv0_.getD begin.length default) ∧ (fv0_.getD begin.length default) < (fv2_.costs.length : Int)) <|
    ck ((0 : Int) ≤ (fv0_.getD v_1.toNat default) ∧ (fv0_.getD v_1.toNat default) < ((fv2_.costs.getD (fv0_.getD begin.length default).toNat default).length : Int)) <|
    bif (decide (0 ≤ ((fv2_.costs.getD (fv0_.getD begin.length default).toNat default).getD (fv0_.getD v_1.toNat default).toNat default))) then
      (m43_slices_Containsint_int_ begin (fv0_.getD v_1.toNat default)).bind fun contains_1 =>
      bif (!contains_1) then
        ck ((0 : Int) ≤ (begin.length : Int) ∧ (begin.length : Int) ≤ (begin.length : Int)) <|
        ck ((((begin.drop 0).take (begin.length - 0)).length + [(fv0_.getD v_1.toNat default)].length) * 8 ≤ 140737488355328) <|
        ck (0 < [(fv0_.getD v_1.toNat default)].length) <|
        apl (fv3_ (((begin.drop 0).take (begin.length - 0)) ++ [(fv0_.getD v_1.toNat default)])) (
        sf63 (IntKind.wrap .i64 (v_1 + 1)))
      else
        sf63 (IntKind.wrap .i64 (v_1 + 1))
    else
      sf63 (IntKind.wrap .i64 (v_1 + 1))
  else
    some ([] : List (List Int))

def m80_coalition_deviations_1_1 (begin : List Int) (fv0_ : List Int) (fv2_ : XRound) (fv3_ : (List Int) → Option (List (List Int))) : Option (List (List Int)) :=
  bif (decide ((begin.length : Int) = (fv0_.length : Int))) then
    (m58_slices_Cloneint_int_ begin).bind fun clone_1 =>
    yl clone_1 (
    some ([] : List (List Int)))
  else
    loop1 (m80_coalition_deviations_1_1_B0 begin fv0_ fv2_ fv3_) (((fv0_.length : Int) - 0).toNat + 1) 0

theorem c80_coalition_deviations_1_1 {w1 : World} {O1 : List Nat} {l : Nat} {begin : List Int} {fv0_ : List Int} {fv2_ : XRound} {fv3_ : (List Int) → Option (List (List Int))} {a_begin : Option Addr} {c_begin : Nat} {p_fv0_ : Addr} {p_fv1_ : Addr} {p_fv2_ : Addr} {p_fv3_ : Addr} (hO1 : ∀ k ∈ O1, k < w1.heap.size) (f_begin : SlR (rInt .i64) w1 O1 a_begin c_begin begin) (f_fv0_ : PtR (rSl (rInt .i64)) w1 O1 p_fv0_ fv0_) (f_fv1_ : PtR (rVal (Value.func (.yield l) #[] #[]) rfl) w1 O1 p_fv1_ ()) (f_fv2_ : PtR rXRound w1 O1 p_fv2_ fv2_) (f_fv3_ : PtR (rSb Try.prog (enc1 (vC (rSl (rInt .i64)))) l (vC (rSl (rInt .i64)))) w1 O1 p_fv3_ fv3_) {J Jx : JP (List Int)} (hJ : Abides J) (hJx : Abides Jx) {L : List (List Int)} (hm : m80_coalition_deviations_1_1 begin fv0_ fv2_ fv3_ = some L) (hY : YieldsTo Try.prog (enc1 (vC (rSl (rInt .i64)))) L l J Jx) (h0 : J [] w1 O1 []) :
    Fn Try.prog 80 [(Value.slice a_begin begin.length c_begin), (Value.pointer (some p_fv0_)), (Value.pointer (some p_fv1_)), (Value.pointer (some p_fv2_)), (Value.pointer (some p_fv3_))] w1 fun u w2 => ∃ O2, (u = .bool true ∧ J L w2 O2 []) ∨ (u = .bool false ∧ ∃ pre, Jx pre w2 O2 []) := by
  unfold m80_coalition_deviations_1_1 at hm
  obtain ⟨x, hm, hL⟩ : ∃ x, _ = some x ∧ L = [] ++ x := ⟨L, hm, rfl⟩
  refine Fn_of_Wp (n := 57) (xs := [.tmp 6]) Try.func80 rfl Try.ntmps80 Try.results80 rfl ?_
  have hs := St.start hO1
  have hI := Itr.start h0
  refine Wp_seq ?_
  refine Wp_region ?_  -- 0 coalition.go:97
  refine Rg_op rfl (op_assign (v := (Value.bool false)) rfl ?_)
  refine Rg_nil ?_
  refine Wp_seq ?_
  refine Wp_region ?_  -- 1 coalition.go:98
  refine Rg_op rfl (op_move (v := (Value.slice a_begin begin.length c_begin)) rfl ?_)
  refine Rg_op rfl (op_len Try.underlying22 rfl ?_)
  refine Rg_op rfl (op_assign (v := (Value.int .i64 (begin.length : Int))) rfl ?_)
  refine Rg_nil ?_
  refine Wp_seq ?_
  refine Wp_seq ?_
  refine Wp_region ?_  -- 2 coalition.go:99
  refine Rg_op rfl (op_move (v := (Value.int .i64 (begin.length : Int))) rfl ?_)
  refine Rg_op rfl (op_loadP ty22 rfl f_fv0_ rfl ?_)
  intro v1 h2
  obtain ⟨a_y3, c_y3, rfl, f_y3⟩ := un_sl h2
  refine Rg_op rfl (op_len Try.underlying22 rfl ?_)
  refine Rg_op rfl (op_eql rfl rfl ?_)
  refine Rg_nil ?_
  refine Wp_cond rfl (fun hc4 => ?_) (fun hc4 => ?_)
  ·
    replace hm := bif_t hm hc4
    refine Wp_seq ?_
    clear f_fv0_ f_fv2_ f_fv3_ f_y3
    refine Wp_drawR (g0 := []) (m := 3) (fl := []) (TS_inv hs) (.inl rfl) rfl (by decide +kernel) ?_  -- 3
    refine Dw_eq (Value.func (.yield l) #[] #[]) (fun ρ5 w6 g hle hi ht => ?_) ?_
    ·
      obtain ⟨-, hst, -⟩ := hle
      replace f_fv1_ := f_fv1_.step hst
      refine StepOp_plain (op_loadP ty75 (ht 2 rfl) f_fv1_ rfl ?_)
      intro v8 h9
      obtain rfl := un_val h9
      exact Goes.same hi rfl
    refine Dw_eq (Value.slice a_begin begin.length c_begin) (fun ρ10 w11 g hle hi ht => ?_) ?_
    ·
      obtain ⟨-, hst, -⟩ := hle
      refine StepOp_plain (op_move (v := (Value.slice a_begin begin.length c_begin)) (ht 0 rfl) ?_)
      exact Goes.same hi rfl
    replace hm := bd hm; obtain ⟨clone_1, hv16, hm⟩ := hm
    refine Dw_op (VD O1 [] (vC (rSl (rInt .i64))) clone_1) (VD.stab _ _) (fun ρ13 w14 g hle hi ht => ?_) ?_
    ·
      obtain ⟨-, hst, -⟩ := hle
      replace f_begin := f_begin.step hst
      refine StepOp_plain (op_call Try.call58 (c58_slices_Cloneint_int_ (O := ks (ents g ++ []) O1) (s := begin) hi.ltw f_begin hv16) (by simp only [List.map, Array.toList, (show ev _ (.tmp 17) = _ from (ht 17 rfl))] <;> rfl) ?_)
      rintro v17 w18 ⟨hx19, h20⟩
      exact Goes.call hi hx19 h20
    refine Dw_nil fun w26 g27 hl28 hi29 => ?_
    obtain ⟨-, hst30, -⟩ := hl28
    obtain ⟨hs32, p31⟩ := Step.nx hi29
    rintro v33 h34
    replace h34 : Vr.vd (vC (rSl (rInt .i64))) _ _ _ _ := h34
    obtain ⟨a_y35, c_y35, rfl, f_y35⟩ := un_sl h34
    rintro _ rfl
    rintro _ rfl
    have p36 : Step (ks [] O1) w1 (ks [] O1) w26 := hst30.trans p31
    replace f_y35 := f_y35.step p31
    replace f_begin := f_begin.step p36
    replace f_fv1_ := f_fv1_.step p36
    clear p36
    replace hm := yl_elim hm; obtain ⟨xr37, hm, hL38⟩ := hm
    rw [hL38] at hL
    refine Rg_op rfl (op_yield (pre := ([] : List _)) (a := clone_1) rfl rfl hY hJ hI hs32 ⟨xr37, by rw [hL]; simp⟩ (show (enc1 (vC (rSl (rInt .i64)))) _ _ _ _ from ⟨_, rfl, (mkC (mk_sl f_y35))⟩) ?_ ?_)
    ·
      intro w39 O40 hs41 p42 hI43
      replace f_begin := f_begin.step p42
      replace f_fv1_ := f_fv1_.step p42
      replace f_y35 := f_y35.step p42
      clear p42 hs32
      have hL44 : L = (([] : List _) ++ [clone_1]) ++ xr37 := by rw [hL]; simp
      refine Rg_op rfl (op_assign (v := (Value.bool true)) rfl ?_)
      refine Rg_nil ?_
      refine Wp_ret ?_
      have h45 := hI43.fin hJ hs41
      rw [← Option.some.inj hm, List.append_nil] at hL44; rw [← hL44] at h45
      exact ⟨_, (show Closes [] _ _ from rfl), [Value.bool true], ⟨rfl, trivial⟩, _, .inl ⟨rfl, h45⟩⟩
    ·
      intro w46 O47 hs48 hI50
      refine Rg_op rfl (op_assign (v := (Value.bool false)) rfl ?_)
      refine Rg_nil ?_
      refine Wp_ret ?_
      exact ⟨_, (show Closes [] _ _ from rfl), [Value.bool false], ⟨rfl, trivial⟩, _, .inr ⟨rfl, _, hI50.fin hJx hs48⟩⟩
  ·
    replace hm := bif_f hm hc4
    refine Wp_skip ?_
    refine Wp_seq ?_
    refine Wp_seq ?_
    clear f_fv1_ f_y3
    refine Wp_region ?_  -- 4 coalition.go:102
    refine Rg_op rfl (op_loadP ty22 rfl f_fv0_ rfl ?_)
    intro v51 h52
    obtain ⟨a_y53, c_y53, rfl, f_y53⟩ := un_sl h52
    refine Rg_op rfl (op_len Try.underlying22 rfl ?_)
    refine Rg_op rfl (op_move (v := (Value.int .i64 0)) rfl ?_)
    refine Rg_nil ?_
    refine Wp_block ?_
    refine Wp_reset [] [(0, (Value.slice a_begin begin.length c_begin)), (1, (Value.pointer (some p_fv0_))), (3, (Value.pointer (some p_fv2_))), (4, (Value.pointer (some p_fv3_))), (7, (Value.int .i64 (begin.length : Int))), (20, (Value.slice a_y53 fv0_.length c_y53)), (21, (Value.int .i64 (fv0_.length : Int))), (22, (Value.int .i64 0))] rfl ⟨rfl, rfl, rfl, rfl, rfl, rfl, rfl, rfl, trivial⟩ fun ξ62 => ?_
    refine Wp_loopM [6, 9, 22, 23, 24, 25, 26, 27, 28, 29, 30, 31, 32, 33, 34, 35, 36, 37, 38, 39, 40, 41, 42, 43, 44, 45, 46, 47, 48, 49, 50, 51, 52, 53, 54, 55, 56] (fun m fr w' => ∃ (v_1 : Int) (xr55 pre56 : List (List Int)) (wz57 : World) (Kz58 Oz59 : List Nat) (Ebs : Ents), Ebs = [] ∧ fr [] [(22, (Value.int .i64 v_1))] ∧ Step (ks [] O1) w1 (ks Ebs Oz59) w' ∧ St ⟨wz57, Kz58, []⟩ Oz59 w' Ebs ∧ InK .i64 v_1 ∧ Itr J pre56 ⟨wz57, Kz58, []⟩ Oz59 ∧ L = pre56 ++ xr55 ∧ loop1 (m80_coalition_deviations_1_1_B0 begin fv0_ fv2_ fv3_) m v_1 = some xr55) (((fv0_.length : Int) - 0).toNat + 1) ⟨0, x, ([] : List _), w1, [], O1, _, rfl, ⟨Out.refl _ _, rfl, rfl, trivial⟩, Step.refl _ _, hs, (show InK .i64 0 from by decide), hI, hL, hm⟩ ?_ ?_
    · rintro _ _ ⟨_, _, _, _, _, _, _, _, _, _, _, _, _, _, hm⟩; exact loop1_z hm
    · rintro m66 K65 hK65 ρ71 w67 ⟨v_1, xr55, pre56, wz57, Kz58, Oz59, Ebs, hEbs, hfr70, hst69, hs68, r_y54, hI60, hL61, hm⟩
      obtain ⟨sf63, hsf64, hm⟩ := loop1_s hm; unfold m80_coalition_deviations_1_1_B0 at hm
      subst hEbs; rw [hfr70.eq]; clear hfr70
      replace f_begin := f_begin.step hst69
      replace f_fv0_ := f_fv0_.step hst69
      replace f_fv2_ := f_fv2_.step hst69
      replace f_fv3_ := f_fv3_.step hst69
      replace f_y53 := f_y53.step hst69
      have ch72 := hst69
      refine Wp_seq ?_
      refine Wp_region ?_  -- 5 coalition.go:102
      refine Rg_op rfl (op_lss rfl rfl ?_)
      refine Rg_nil ?_
      refine Wp_seq ?_
      refine Wp_cond rfl (fun hc73 => ?_) (fun hc73 => ?_)
      ·
        replace hm := bif_t hm hc73
        refine Wp_skip ?_
        refine Wp_seq ?_
        refine Wp_block ?_
        refine Wp_seq ?_
        refine Wp_region ?_  -- 6 coalition.go:102
        replace hm := ck_some hm; obtain ⟨hc74, hm⟩ := hm
        refine Rg_op rfl (op_indexAddr (q := (rInt .i64)) ty22 ty3 rfl rfl f_y53 rfl hc74.1 hc74.2 ?_)
        intro p75 f76
        refine Rg_op rfl (op_loadP ty3 rfl f76 rfl ?_)
        intro v77 h78
        obtain ⟨rfl, r_y79⟩ := un_int h78
        refine Rg_op rfl (op_assign (v := (Value.int .i64 (fv0_.getD v_1.toNat default))) rfl ?_)
        refine Rg_nil ?_
        refine Wp_seq ?_
        clear f76
        refine Wp_drawR (g0 := []) (m := 27) (fl := []) (TS_inv hs68) (.inl rfl) rfl (by decide +kernel) ?_  -- 7
        refine Dw_op (VP Oz59 [] (rSl (rSl (rInt .i64))) fv2_.costs) (VP.stab _ _) (fun ρ80 w81 g hle hi ht => ?_) ?_
        ·
          obtain ⟨-, hst, -⟩ := hle
          replace f_fv2_ := f_fv2_.step hst
          refine StepOp_plain (op_fieldAddr ty25 rfl ty23 (by decide) (ht 3 rfl) rfl ?_)
          have f83 := f_fv2_.via.snd.snd
          exact Goes.same hi ⟨_, rfl, f83⟩
        refine Dw_op (VD Oz59 [] (vC (rSl (rSl (rInt .i64)))) fv2_.costs) (VD.stab _ _) (fun ρ84 w85 g hle hi ht => ?_) ?_
        ·
          obtain ⟨-, hst, -⟩ := hle
          obtain ⟨p87, q88, f89⟩ := ht 26 rfl
          refine StepOp_plain (op_loadP ty23 q88 f89 rfl ?_)
          intro v90 h91
          obtain ⟨a_y92, c_y92, rfl, f_y92⟩ := un_sl h91
          exact Goes.same hi (show Vr.vd (vC (rSl (rSl (rInt .i64)))) _ _ _ _ from (mkC (mk_sl f_y92)))
        refine Dw_op (VD Oz59 [] (vC (rSl (rInt .i64))) fv0_) (VD.stab _ _) (fun ρ93 w94 g hle hi ht => ?_) ?_
        ·
          obtain ⟨-, hst, -⟩ := hle
          replace f_fv0_ := f_fv0_.step hst
          refine StepOp_plain (op_loadP ty22 (ht 1 rfl) f_fv0_ rfl ?_)
          intro v96 h97
          obtain ⟨a_y98, c_y98, rfl, f_y98⟩ := un_sl h97
          exact Goes.same hi (show Vr.vd (vC (rSl (rInt .i64))) _ _ _ _ from (mkC (mk_sl f_y98)))
        refine Dw_eq (Value.int .i64 (begin.length : Int)) (fun ρ99 w100 g hle hi ht => ?_) ?_
        ·
          obtain ⟨-, hst, -⟩ := hle
          refine StepOp_plain (op_move (v := (Value.int .i64 (begin.length : Int))) (ht 7 rfl) ?_)
          exact Goes.same hi rfl
        replace hm := ck_some hm; obtain ⟨hc108, hm⟩ := hm
        refine Dw_op (VP Oz59 [] (rInt .i64) (fv0_.getD begin.length default)) (VP.stab _ _) (fun ρ102 w103 g hle hi ht => ?_) ?_
        ·
          obtain ⟨-, hst, -⟩ := hle
          have h105 : Vr.vd (vC (rSl (rInt .i64))) _ _ _ _ := ht 28 rfl
          obtain ⟨a_y107, c_y107, q106, f_y107⟩ := un_sl h105
          refine StepOp_plain (op_indexAddr (q := (rInt .i64)) ty22 ty3 q106 (ht 29 rfl) f_y107 rfl hc108.1 hc108.2 ?_)
          intro p109 f110
          exact Goes.same hi ⟨_, rfl, f110⟩
        refine Dw_op (VD Oz59 [] (vI .i64) (fv0_.getD begin.length default)) (VD.stab _ _) (fun ρ111 w112 g hle hi ht => ?_) ?_
        ·
          obtain ⟨-, hst, -⟩ := hle
          obtain ⟨p114, q115, f116⟩ := ht 30 rfl
          refine StepOp_plain (op_loadP ty3 q115 f116 rfl ?_)
          intro v117 h118
          obtain ⟨rfl, r_y119⟩ := un_int h118
          exact Goes.same hi (show Vr.vd (vI .i64) _ _ _ _ from ⟨rfl, r_y119⟩)
        replace hm := ck_some hm; obtain ⟨hc129, hm⟩ := hm
        refine Dw_op (VP Oz59 [] (rSl (rInt .i64)) (fv2_.costs.getD (fv0_.getD begin.length default).toNat default)) (VP.stab _ _) (fun ρ120 w121 g hle hi ht => ?_) ?_
        ·
          obtain ⟨-, hst, -⟩ := hle
          have h123 : Vr.vd (vC (rSl (rSl (rInt .i64)))) _ _ _ _ := ht 27 rfl
          obtain ⟨a_y125, c_y125, q124, f_y125⟩ := un_sl h123
          have h126 : Vr.vd (vI .i64) _ _ _ _ := ht 31 rfl
          obtain ⟨q127, r_y128⟩ := h126
          refine StepOp_plain (op_indexAddr (q := (rSl (rInt .i64))) ty23 ty22 q124 q127 f_y125 rfl hc129.1 hc129.2 ?_)
          intro p130 f131
          exact Goes.same hi ⟨_, rfl, f131⟩
        refine Dw_op (VD Oz59 [] (vC (rSl (rInt .i64))) (fv2_.costs.getD (fv0_.getD begin.length default).toNat default)) (VD.stab _ _) (fun ρ132 w133 g hle hi ht => ?_) ?_
        ·
          obtain ⟨-, hst, -⟩ := hle
          obtain ⟨p135, q136, f137⟩ := ht 32 rfl
          refine StepOp_plain (op_loadP ty22 q136 f137 rfl ?_)
          intro v138 h139
          obtain ⟨a_y140, c_y140, rfl, f_y140⟩ := un_sl h139
          exact Goes.same hi (show Vr.vd (vC (rSl (rInt .i64))) _ _ _ _ from (mkC (mk_sl f_y140)))
        refine Dw_eq (Value.int .i64 (fv0_.getD v_1.toNat default)) (fun ρ141 w142 g hle hi ht => ?_) ?_
        ·
          obtain ⟨-, hst, -⟩ := hle
          refine StepOp_plain (op_move (v := (Value.int .i64 (fv0_.getD v_1.toNat default))) (ht 9 rfl) ?_)
          exact Goes.same hi rfl
        replace hm := ck_some hm; obtain ⟨hc150, hm⟩ := hm
        refine Dw_op (VP Oz59 [] (rInt .i64) ((fv2_.costs.getD (fv0_.getD begin.length default).toNat default).getD (fv0_.getD v_1.toNat default).toNat default)) (VP.stab _ _) (fun ρ144 w145 g hle hi ht => ?_) ?_
        ·
          obtain ⟨-, hst, -⟩ := hle
          have h147 : Vr.vd (vC (rSl (rInt .i64))) _ _ _ _ := ht 33 rfl
          obtain ⟨a_y149, c_y149, q148, f_y149⟩ := un_sl h147
          refine StepOp_plain (op_indexAddr (q := (rInt .i64)) ty22 ty3 q148 (ht 34 rfl) f_y149 rfl hc150.1 hc150.2 ?_)
          intro p151 f152
          exact Goes.same hi ⟨_, rfl, f152⟩
        refine Dw_op (VD Oz59 [] (vI .i64) ((fv2_.costs.getD (fv0_.getD begin.length default).toNat default).getD (fv0_.getD v_1.toNat default).toNat default)) (VD.stab _ _) (fun ρ153 w154 g hle hi ht => ?_) ?_
        ·
          obtain ⟨-, hst, -⟩ := hle
          obtain ⟨p156, q157, f158⟩ := ht 35 rfl
          refine StepOp_plain (op_loadP ty3 q157 f158 rfl ?_)
          intro v159 h160
          obtain ⟨rfl, r_y161⟩ := un_int h160
          exact Goes.same hi (show Vr.vd (vI .i64) _ _ _ _ from ⟨rfl, r_y161⟩)
        refine Dw_eq (Value.bool (decide (0 ≤ ((fv2_.costs.getD (fv0_.getD begin.length default).toNat default).getD (fv0_.getD v_1.toNat default).toNat default)))) (fun ρ162 w163 g hle hi ht => ?_) ?_
        ·
          obtain ⟨-, hst, -⟩ := hle
          have h165 : Vr.vd (vI .i64) _ _ _ _ := ht 36 rfl
          obtain ⟨q166, r_y167⟩ := h165
          refine StepOp_plain (op_geq q166 rfl ?_)
          exact Goes.same hi rfl
        refine Dw_opB (decide (0 ≤ ((fv2_.costs.getD (fv0_.getD begin.length default).toNat default).getD (fv0_.getD v_1.toNat default).toNat default))) (fun ρ168 w169 g hle hi ht => ?_) (fun hg171 => ?_) (fun hg171 => ?_)
        ·
          obtain ⟨-, hst, -⟩ := hle
          refine StepOp_plain (op_move (v := (Value.bool (decide (0 ≤ ((fv2_.costs.getD (fv0_.getD begin.length default).toNat default).getD (fv0_.getD v_1.toNat default).toNat default))))) (ht 37 rfl) ?_)
          exact Goes.same hi rfl
        ·
          replace hm := bif_t hm hg171
          refine Dw_eq (Value.slice a_begin begin.length c_begin) (fun ρ172 w173 g hle hi ht => ?_) ?_
          ·
            obtain ⟨-, hst, -⟩ := hle
            refine StepOp_g rfl (ht 38 rfl) (op_move (v := (Value.slice a_begin begin.length c_begin)) (ht 0 rfl) ?_)
            exact Goes.same hi rfl
          refine Dw_eq (Value.int .i64 (fv0_.getD v_1.toNat default)) (fun ρ175 w176 g hle hi ht => ?_) ?_
          ·
            obtain ⟨-, hst, -⟩ := hle
            refine StepOp_g rfl (ht 38 rfl) (op_move (v := (Value.int .i64 (fv0_.getD v_1.toNat default))) (ht 9 rfl) ?_)
            exact Goes.same hi rfl
          replace hm := bd hm; obtain ⟨contains_1, hv181, hm⟩ := hm
          refine Dw_op (VD Oz59 [] vB contains_1) (VD.stab _ _) (fun ρ178 w179 g hle hi ht => ?_) ?_
          ·
            obtain ⟨-, hst, -⟩ := hle
            replace f_begin := f_begin.step hst
            refine StepOp_g rfl (ht 38 rfl) (op_call Try.call43 (c43_slices_Containsint_int_ (O := ks (ents g ++ []) Oz59) (s := begin) (v := (fv0_.getD v_1.toNat default)) hi.ltw f_begin r_y79 hv181) (by simp only [List.map, Array.toList, (show ev _ (.tmp 39) = _ from (ht 39 rfl)), (show ev _ (.tmp 40) = _ from (ht 40 rfl))] <;> rfl) ?_)
            rintro v182 w183 ⟨hx184, h185⟩
            exact Goes.call hi hx184 h185
          refine Dw_eq (Value.bool (!contains_1)) (fun ρ187 w188 g hle hi ht => ?_) ?_
          ·
            obtain ⟨-, hst, -⟩ := hle
            have h190 : Vr.vd vB _ _ _ _ := ht 41 rfl
            have q191 : _ = (Value.bool contains_1) := h190
            refine StepOp_g rfl (ht 38 rfl) (op_not q191 ?_)
            exact Goes.same hi rfl
          refine Dw_eq (Value.bool (!contains_1)) (fun ρ193 w194 g hle hi ht => ?_) ?_
          ·
            obtain ⟨-, hst, -⟩ := hle
            refine StepOp_plain (op_pick_t (v := (Value.bool (!contains_1))) (ht 38 rfl) (ht 42 rfl) ?_)
            exact Goes.same hi rfl
          refine Dw_opB (!contains_1) (fun ρ196 w197 g hle hi ht => ?_) (fun hg199 => ?_) (fun hg199 => ?_)
          ·
            obtain ⟨-, hst, -⟩ := hle
            refine StepOp_plain (op_move (v := (Value.bool (!contains_1))) (ht 43 rfl) ?_)
            exact Goes.same hi rfl
          ·
            replace hm := bif_t hm hg199
            refine Dw_op (VD Oz59 [] (vSb Try.prog (enc1 (vC (rSl (rInt .i64)))) l (vC (rSl (rInt .i64)))) fv3_) (VD.stab _ _) (fun ρ200 w201 g hle hi ht => ?_) ?_
            ·
              obtain ⟨-, hst, -⟩ := hle
              replace f_fv3_ := f_fv3_.step hst
              refine StepOp_g rfl (ht 44 rfl) (op_loadP ty75 (ht 4 rfl) f_fv3_ rfl ?_)
              intro v203 h204
              have F205 := un_sb h204; clear h204
              exact Goes.same hi (show Vr.vd (vSb Try.prog (enc1 (vC (rSl (rInt .i64)))) l (vC (rSl (rInt .i64)))) _ _ _ _ from F205)
            refine Dw_eq (Value.slice a_begin begin.length c_begin) (fun ρ206 w207 g hle hi ht => ?_) ?_
            ·
              obtain ⟨-, hst, -⟩ := hle
              refine StepOp_g rfl (ht 44 rfl) (op_move (v := (Value.slice a_begin begin.length c_begin)) (ht 0 rfl) ?_)
              exact Goes.same hi rfl
            refine Dw_eq (Value.int .i64 (begin.length : Int)) (fun ρ209 w210 g hle hi ht => ?_) ?_
            ·
              obtain ⟨-, hst, -⟩ := hle
              refine StepOp_g rfl (ht 44 rfl) (op_move (v := (Value.int .i64 (begin.length : Int))) (ht 7 rfl) ?_)
              exact Goes.same hi rfl
            refine Dw_eq (Value.int .i64 (begin.length : Int)) (fun ρ212 w213 g hle hi ht => ?_) ?_
            ·
              obtain ⟨-, hst, -⟩ := hle
              refine StepOp_g rfl (ht 44 rfl) (op_move (v := (Value.int .i64 (begin.length : Int))) (ht 7 rfl) ?_)
              exact Goes.same hi rfl
            replace hm := ck_some hm; obtain ⟨hc218, hm⟩ := hm
            refine Dw_op (VD Oz59 [] (vCl (rInt .i64)) ((begin.drop 0).take (begin.length - 0))) (VD.stab _ _) (fun ρ215 w216 g hle hi ht => ?_) ?_
            ·
              obtain ⟨-, hst, -⟩ := hle
              replace f_begin := f_begin.step hst
              refine StepOp_g rfl (ht 44 rfl) (op_slice (q := (rInt .i64)) (l := 0) (h := begin.length) (m := begin.length) ty22 ty3 (ht 46 rfl) f_begin rfl rfl (bndI (ht 47 rfl) (by omega)) (bndI (ht 48 rfl) (by omega)) (by decide) (by omega) (by omega) (by have := f_begin.le; omega) (by have := f_begin.le; omega) ?_)
              intro a219 f220
              exact Goes.same hi (show Vr.vd (vCl (rInt .i64)) _ _ _ _ from mkCl f220 (by simp <;> omega))
            refine Dw_eq (Value.int .i64 (fv0_.getD v_1.toNat default)) (fun ρ221 w222 g hle hi ht => ?_) ?_
            ·
              obtain ⟨-, hst, -⟩ := hle
              refine StepOp_g rfl (ht 44 rfl) (op_move (v := (Value.int .i64 (fv0_.getD v_1.toNat default))) (ht 9 rfl) ?_)
              exact Goes.same hi rfl
            refine Dw_op (VD Oz59 [] (vC (rSl (rInt .i64))) [(fv0_.getD v_1.toNat default)]) (VD.stab _ _) (fun ρ224 w225 g hle hi ht => ?_) ?_
            ·
              obtain ⟨-, hst, -⟩ := hle
              replace f_begin := f_begin.step hst
              replace f_fv0_ := f_fv0_.step hst
              replace f_fv2_ := f_fv2_.step hst
              replace f_fv3_ := f_fv3_.step hst
              replace f_y53 := f_y53.step hst
              refine StepOp_g rfl (ht 44 rfl) (op_buildSlice (cs := [(Value.int .i64 (fv0_.getD v_1.toNat default))]) (parts := [(0, .tmp 50)]) ty22 ty3 hi (by decide) (by simp only [List.map, (show ev _ (.tmp 50) = _ from (ht 50 rfl))]; rfl) ?_)
              intro b227 w228 hx231 p229 hs230
              replace f_begin := f_begin.step p229
              replace f_fv0_ := f_fv0_.step p229
              replace f_fv2_ := f_fv2_.step p229
              replace f_fv3_ := f_fv3_.step p229
              replace f_y53 := f_y53.step p229
              obtain ⟨hs233, p234, f235⟩ := St.publish (i := 0) (o := 0) (c := 1) (xs := [(fv0_.getD v_1.toNat default)]) hs230 rfl (show Els (rInt .i64) _ _ [(Value.int .i64 (fv0_.getD v_1.toNat default))] [(fv0_.getD v_1.toNat default)] from ⟨_, _, rfl, (mk_int r_y79), Els.nil⟩) (le_lit rfl) (le_lit rfl) (le_lit rfl)
              exact Goes.pub hi hs233 (Step.trans p229 p234) hx231 (show Vr.vd (vC (rSl (rInt .i64))) _ _ _ _ from mkC (mk_sl f235))
            replace hm := ck_some hm; obtain ⟨hc246, hm⟩ := hm
            replace hm := ck_some hm; obtain ⟨hc247, hm⟩ := hm
            refine Dw_op (VD Oz59 [] (vC (rSl (rInt .i64))) (((begin.drop 0).take (begin.length - 0)) ++ [(fv0_.getD v_1.toNat default)])) (VD.stab _ _) (fun ρ236 w237 g hle hi ht => ?_) ?_
            ·
              obtain ⟨-, hst, -⟩ := hle
              have h239 : Vr.vd (vCl (rInt .i64)) _ _ _ _ := ht 49 rfl
              obtain ⟨a241, q240, f242⟩ := h239
              have h243 : Vr.vd (vC (rSl (rInt .i64))) _ _ _ _ := ht 51 rfl
              obtain ⟨a_y245, c_y245, q244, f_y245⟩ := un_sl h243
              obtain ⟨ns248, he249, hr250⟩ := f_y245.src
              refine StepOp_g rfl (ht 44 rfl) (op_appendPX (q := (rInt .i64)) (xs := ((begin.drop 0).take (begin.length - 0))) (ys := [(fv0_.getD v_1.toNat default)]) (news := ns248) ty22 ty3 rfl (by decide) hi q240 f242 q244 hr250 he249 hc247 hc246 (by have := hc246; simp only [maxLen]; omega) ?_)
              intro a254 c255 w251 hx257 p252 hs253 f256; exact Goes.pub hi hs253 p252 hx257 (show Vr.vd (vC (rSl (rInt .i64))) _ _ _ _ from mkC (mk_sl f256))
            refine Dw_nil fun w262 g263 hl264 hi265 => ?_
            obtain ⟨-, hst266, -⟩ := hl264
            obtain ⟨hs268, p267⟩ := Step.nx hi265
            rintro v269 h270
            replace h270 : Vr.vd (vC (rSl (rInt .i64))) _ _ _ _ := h270
            obtain ⟨a_y271, c_y271, rfl, f_y271⟩ := un_sl h270
            rintro v272 h273
            replace h273 : Vr.vd (vC (rSl (rInt .i64))) _ _ _ _ := h273
            obtain ⟨a_y274, c_y274, rfl, f_y274⟩ := un_sl h273
            rintro _ rfl
            rintro v275 h276
            replace h276 : Vr.vd (vCl (rInt .i64)) _ _ _ _ := h276
            obtain ⟨a277, rfl, f278⟩ := h276
            rintro _ rfl
            rintro _ rfl
            rintro _ rfl
            rintro v279 h280
            replace h280 : Vr.vd (vSb Try.prog (enc1 (vC (rSl (rInt .i64)))) l (vC (rSl (rInt .i64)))) _ _ _ _ := h280
            have F282 := h280
            replace F282 : SubIt1 Try.prog (enc1 (vC (rSl (rInt .i64)))) l _ _ v279 (vC (rSl (rInt .i64))) fv3_ := F282
            rintro _ rfl
            rintro _ rfl
            rintro _ rfl
            rintro v283 h284
            replace h284 : Vr.vd vB _ _ _ _ := h284
            obtain rfl := h284
            rintro _ rfl
            rintro _ rfl
            rintro _ rfl
            rintro _ rfl
            rintro v286 h287
            replace h287 : Vr.vd (vI .i64) _ _ _ _ := h287
            obtain ⟨rfl, r_y288⟩ := h287
            rintro _ ⟨p289, rfl, f290⟩
            rintro _ rfl
            rintro v291 h292
            replace h292 : Vr.vd (vC (rSl (rInt .i64))) _ _ _ _ := h292
            obtain ⟨a_y293, c_y293, rfl, f_y293⟩ := un_sl h292
            rintro _ ⟨p294, rfl, f295⟩
            rintro v296 h297
            replace h297 : Vr.vd (vI .i64) _ _ _ _ := h297
            obtain ⟨rfl, r_y298⟩ := h297
            rintro _ ⟨p299, rfl, f300⟩
            rintro _ rfl
            rintro v301 h302
            replace h302 : Vr.vd (vC (rSl (rInt .i64))) _ _ _ _ := h302
            obtain ⟨a_y303, c_y303, rfl, f_y303⟩ := un_sl h302
            rintro v304 h305
            replace h305 : Vr.vd (vC (rSl (rSl (rInt .i64)))) _ _ _ _ := h305
            obtain ⟨a_y306, c_y306, rfl, f_y306⟩ := un_sl h305
            rintro _ ⟨p307, rfl, f308⟩
            have p309 : Step (ks [] Oz59) w67 (ks [] Oz59) w262 := hst266.trans p267
            replace f_y271 := f_y271.step p267
            replace f_y274 := f_y274.step p267
            replace f278 := f278.step p267
            replace F282 := F282.step p267
            replace f290 := f290.step p267
            replace f_y293 := f_y293.step p267
            replace f295 := f295.step p267
            replace f300 := f300.step p267
            replace f_y303 := f_y303.step p267
            replace f_y306 := f_y306.step p267
            replace f308 := f308.step p267
            replace f_begin := f_begin.step p309
            replace f_fv0_ := f_fv0_.step p309
            replace f_fv2_ := f_fv2_.step p309
            replace f_fv3_ := f_fv3_.step p309
            replace f_y53 := f_y53.step p309
            replace ch72 := ch72.trans p309
            clear p309 hs68
            replace hm := apl_elim hm; obtain ⟨A310, xr311, ha312, hm, hL313⟩ := hm
            rw [hL313] at hL61
            refine Rg_opg rfl rfl rfl (op_subcall (pre := pre56) (Lx := A310) rfl F282 rfl (show Vr.vd (vC (rSl (rInt .i64))) _ _ _ _ from (mkC (mk_sl f_y271))) ha312 hY hJ hJx hI60 hs268 ⟨xr311, by rw [hL61]; simp⟩ ?_ ?_)
            ·
              intro w314 O315 hs316 p317 hI318
              replace f_begin := f_begin.step p317
              replace f_fv0_ := f_fv0_.step p317
              replace f_fv2_ := f_fv2_.step p317
              replace f_fv3_ := f_fv3_.step p317
              replace f_y53 := f_y53.step p317
              replace f_y271 := f_y271.step p317
              replace f_y274 := f_y274.step p317
              replace f278 := f278.step p317
              replace F282 := F282.step p317
              replace f290 := f290.step p317
              replace f_y293 := f_y293.step p317
              replace f295 := f295.step p317
              replace f300 := f300.step p317
              replace f_y303 := f_y303.step p317
              replace f_y306 := f_y306.step p317
              replace f308 := f308.step p317
              replace ch72 := ch72.trans p317
              clear p317 hs268
              have hL319 : L = (pre56 ++ A310) ++ xr311 := by rw [hL61]; simp
              refine Rg_opg rfl rfl rfl (op_not rfl ?_)
              refine Rg_op rfl (op_pick_t (v := (Value.bool false)) rfl rfl ?_)
              refine Rg_nil ?_
              refine Wp_cond_f rfl ?_
              refine Wp_skip ?_
              clear f290 f_y293 f295 f300 f_y303 f_y306 f308
              refine Wp_reset2 [6, 9, 22, 23, 24, 25, 26, 27, 28, 29, 30, 31, 32, 33, 34, 35, 36, 37, 38, 39, 40, 41, 42, 43, 44, 45, 46, 47, 48, 49, 50, 51, 52, 53, 54, 55, 56] [] (updL ⟨ξ62, []⟩ [(0, (Value.slice a_begin begin.length c_begin)), (1, (Value.pointer (some p_fv0_))), (3, (Value.pointer (some p_fv2_))), (4, (Value.pointer (some p_fv3_))), (7, (Value.int .i64 (begin.length : Int))), (20, (Value.slice a_y53 fv0_.length c_y53)), (21, (Value.int .i64 (fv0_.length : Int))), (22, (Value.int .i64 0))]) [(22, (Value.int .i64 v_1)), (39, (Value.slice a_begin begin.length c_begin)), (40, (Value.int .i64 (fv0_.getD v_1.toNat default))), (41, (Value.bool contains_1)), (42, (Value.bool (!contains_1))), (45, v279), (46, (Value.slice a_begin begin.length c_begin)), (47, (Value.int .i64 (begin.length : Int))), (48, (Value.int .i64 (begin.length : Int))), (49, (Value.slice a277 ((begin.drop 0).take (begin.length - 0)).length (((begin.drop 0).take (begin.length - 0)).length))), (50, (Value.int .i64 (fv0_.getD v_1.toNat default))), (51, (Value.slice a_y274 [(fv0_.getD v_1.toNat default)].length c_y274)), (52, (Value.slice a_y271 (((begin.drop 0).take (begin.length - 0)) ++ [(fv0_.getD v_1.toNat default)]).length c_y271)), (53, (Value.bool true)), (54, (Value.bool false))] (by repeat (first | with_reducible exact Out.refl _ _ | refine Out.upd ?_ rfl | refine Out.updL ?_ rfl | refine Out.mix' ?_ rfl | exact Out.refl _ _)) rfl ⟨rfl, rfl, rfl, rfl, rfl, rfl, rfl, rfl, rfl, rfl, rfl, rfl, rfl, rfl, rfl, trivial⟩ fun ξ320 => ?_
              refine Wp_region ?_  -- 9 coalition.go:102
              refine Rg_op rfl (op_addw rfl rfl ?_)
              refine Rg_op rfl (op_move (v := (Value.int .i64 (IntKind.wrap .i64 (v_1 + 1)))) rfl ?_)
              refine Rg_nil ?_
              exact hK65 _ _ ⟨(IntKind.wrap .i64 (v_1 + 1)), xr311, (pre56 ++ A310), w314, (List.filterMap Prod.fst []), O315, _, rfl, ⟨(by repeat (first | with_reducible exact Out.refl _ _ | refine Out.upd ?_ rfl | refine Out.updL ?_ rfl | refine Out.mix' ?_ rfl | exact Out.refl _ _)), rfl, rfl, trivial⟩, ch72, hs316, (inK_wrap .i64 _), hI318, hL319, jnE1 hsf64 hm⟩
            ·
              intro w321 O322 _ hs323 hI325
              refine Rg_opg rfl rfl rfl (op_not rfl ?_)
              refine Rg_op rfl (op_pick_t (v := (Value.bool true)) rfl rfl ?_)
              refine Rg_nil ?_
              refine Wp_cond_t rfl ?_
              refine Wp_seq ?_
              refine Wp_reset2 [6, 9, 22, 23, 24, 25, 26, 27, 28, 29, 30, 31, 32, 33, 34, 35, 36, 37, 38, 39, 40, 41, 42, 43, 44, 45, 46, 47, 48, 49, 50, 51, 52, 53, 54, 55, 56] [] (updL ⟨ξ62, []⟩ [(0, (Value.slice a_begin begin.length c_begin)), (1, (Value.pointer (some p_fv0_))), (3, (Value.pointer (some p_fv2_))), (4, (Value.pointer (some p_fv3_))), (7, (Value.int .i64 (begin.length : Int))), (20, (Value.slice a_y53 fv0_.length c_y53)), (21, (Value.int .i64 (fv0_.length : Int))), (22, (Value.int .i64 0))]) [] (by repeat (first | with_reducible exact Out.refl _ _ | refine Out.upd ?_ rfl | refine Out.updL ?_ rfl | refine Out.mix' ?_ rfl | exact Out.refl _ _)) rfl trivial fun ξ326 => ?_
              refine Wp_region ?_  -- 8 coalition.go:104
              refine Rg_op rfl (op_assign (v := (Value.bool false)) rfl ?_)
              refine Rg_nil ?_
              refine Wp_ret ?_
              exact ⟨_, (show Closes [] _ _ from rfl), [Value.bool false], ⟨rfl, trivial⟩, _, .inr ⟨rfl, _, hI325.fin hJx hs323⟩⟩
          ·
            replace hm := bif_f hm hg199
            refine Dw_skip (fun _ _ _ ht => wanted_x rfl (ht 44 rfl) rfl) ?_
            refine Dw_skip (fun _ _ _ ht => wanted_x rfl (ht 44 rfl) rfl) ?_
            refine Dw_skip (fun _ _ _ ht => wanted_x rfl (ht 44 rfl) rfl) ?_
            refine Dw_skip (fun _ _ _ ht => wanted_x rfl (ht 44 rfl) rfl) ?_
            refine Dw_skip (fun _ _ _ ht => wanted_x rfl (ht 44 rfl) rfl) ?_
            refine Dw_skip (fun _ _ _ ht => wanted_x rfl (ht 44 rfl) rfl) ?_
            refine Dw_skip (fun _ _ _ ht => wanted_x rfl (ht 44 rfl) rfl) ?_
            refine Dw_skip (fun _ _ _ ht => wanted_x rfl (ht 44 rfl) rfl) ?_
            refine Dw_nil fun w331 g332 hl333 hi334 => ?_
            obtain ⟨-, hst335, -⟩ := hl333
            obtain ⟨hs337, p336⟩ := Step.nx hi334
            rintro _ rfl
            rintro _ rfl
            rintro _ rfl
            rintro _ rfl
            rintro _ rfl
            rintro _ rfl
            rintro _ rfl
            rintro _ rfl
            rintro _ rfl
            rintro _ rfl
            rintro _ rfl
            rintro v338 h339
            replace h339 : Vr.vd vB _ _ _ _ := h339
            obtain rfl := h339
            rintro _ rfl
            rintro _ rfl
            rintro _ rfl
            rintro _ rfl
            rintro v341 h342
            replace h342 : Vr.vd (vI .i64) _ _ _ _ := h342
            obtain ⟨rfl, r_y343⟩ := h342
            rintro _ ⟨p344, rfl, f345⟩
            rintro _ rfl
            rintro v346 h347
            replace h347 : Vr.vd (vC (rSl (rInt .i64))) _ _ _ _ := h347
            obtain ⟨a_y348, c_y348, rfl, f_y348⟩ := un_sl h347
            rintro _ ⟨p349, rfl, f350⟩
            rintro v351 h352
            replace h352 : Vr.vd (vI .i64) _ _ _ _ := h352
            obtain ⟨rfl, r_y353⟩ := h352
            rintro _ ⟨p354, rfl, f355⟩
            rintro _ rfl
            rintro v356 h357
            replace h357 : Vr.vd (vC (rSl (rInt .i64))) _ _ _ _ := h357
            obtain ⟨a_y358, c_y358, rfl, f_y358⟩ := un_sl h357
            rintro v359 h360
            replace h360 : Vr.vd (vC (rSl (rSl (rInt .i64)))) _ _ _ _ := h360
            obtain ⟨a_y361, c_y361, rfl, f_y361⟩ := un_sl h360
            rintro _ ⟨p362, rfl, f363⟩
            have p364 : Step (ks [] Oz59) w67 (ks [] Oz59) w331 := hst335.trans p336
            replace f345 := f345.step p336
            replace f_y348 := f_y348.step p336
            replace f350 := f350.step p336
            replace f355 := f355.step p336
            replace f_y358 := f_y358.step p336
            replace f_y361 := f_y361.step p336
            replace f363 := f363.step p336
            replace f_begin := f_begin.step p364
            replace f_fv0_ := f_fv0_.step p364
            replace f_fv2_ := f_fv2_.step p364
            replace f_fv3_ := f_fv3_.step p364
            replace f_y53 := f_y53.step p364
            replace ch72 := ch72.trans p364
            clear p364 hs68
            refine Rg_opx rfl (asB_ne rfl rfl) rfl ?_
            refine Rg_opx rfl (asB_ne rfl rfl) rfl ?_
            refine Rg_op rfl (op_pick_f (v := (Value.bool false)) rfl rfl ?_)
            refine Rg_nil ?_
            refine Wp_cond_f rfl ?_
            refine Wp_skip ?_
            clear f345 f_y348 f350 f355 f_y358 f_y361 f363
            refine Wp_reset2 [6, 9, 22, 23, 24, 25, 26, 27, 28, 29, 30, 31, 32, 33, 34, 35, 36, 37, 38, 39, 40, 41, 42, 43, 44, 45, 46, 47, 48, 49, 50, 51, 52, 53, 54, 55, 56] [] (updL ⟨ξ62, []⟩ [(0, (Value.slice a_begin begin.length c_begin)), (1, (Value.pointer (some p_fv0_))), (3, (Value.pointer (some p_fv2_))), (4, (Value.pointer (some p_fv3_))), (7, (Value.int .i64 (begin.length : Int))), (20, (Value.slice a_y53 fv0_.length c_y53)), (21, (Value.int .i64 (fv0_.length : Int))), (22, (Value.int .i64 0))]) [(22, (Value.int .i64 v_1)), (39, (Value.slice a_begin begin.length c_begin)), (40, (Value.int .i64 (fv0_.getD v_1.toNat default))), (41, (Value.bool contains_1)), (42, (Value.bool (!contains_1)))] (by repeat (first | with_reducible exact Out.refl _ _ | refine Out.upd ?_ rfl | refine Out.updL ?_ rfl | refine Out.mix' ?_ rfl | exact Out.refl _ _)) rfl ⟨rfl, rfl, rfl, rfl, rfl, trivial⟩ fun ξ365 => ?_
            refine Wp_region ?_  -- 9 coalition.go:102
            refine Rg_op rfl (op_addw rfl rfl ?_)
            refine Rg_op rfl (op_move (v := (Value.int .i64 (IntKind.wrap .i64 (v_1 + 1)))) rfl ?_)
            refine Rg_nil ?_
            exact hK65 _ _ ⟨(IntKind.wrap .i64 (v_1 + 1)), xr55, pre56, wz57, Kz58, Oz59, _, rfl, ⟨(by repeat (first | with_reducible exact Out.refl _ _ | refine Out.upd ?_ rfl | refine Out.updL ?_ rfl | refine Out.mix' ?_ rfl | exact Out.refl _ _)), rfl, rfl, trivial⟩, ch72, hs337, (inK_wrap .i64 _), hI60, hL61, jnE1 hsf64 hm⟩
        ·
          replace hm := bif_f hm hg171
          refine Dw_skip (fun _ _ _ ht => wanted_x rfl (ht 38 rfl) rfl) ?_
          refine Dw_skip (fun _ _ _ ht => wanted_x rfl (ht 38 rfl) rfl) ?_
          refine Dw_skip (fun _ _ _ ht => wanted_x rfl (ht 38 rfl) rfl) ?_
          refine Dw_skip (fun _ _ _ ht => wanted_x rfl (ht 38 rfl) rfl) ?_
          refine Dw_eq (Value.bool false) (fun ρ366 w367 g hle hi ht => ?_) ?_
          ·
            obtain ⟨-, hst, -⟩ := hle
            refine StepOp_plain (op_pick_f (v := (Value.bool false)) (ht 38 rfl) rfl ?_)
            exact Goes.same hi rfl
          refine Dw_eq (Value.bool false) (fun ρ369 w370 g hle hi ht => ?_) ?_
          ·
            obtain ⟨-, hst, -⟩ := hle
            refine StepOp_plain (op_move (v := (Value.bool false)) (ht 43 rfl) ?_)
            exact Goes.same hi rfl
          refine Dw_skip (fun _ _ _ ht => wanted_x rfl (ht 44 rfl) rfl) ?_
          refine Dw_skip (fun _ _ _ ht => wanted_x rfl (ht 44 rfl) rfl) ?_
          refine Dw_skip (fun _ _ _ ht => wanted_x rfl (ht 44 rfl) rfl) ?_
          refine Dw_skip (fun _ _ _ ht => wanted_x rfl (ht 44 rfl) rfl) ?_
          refine Dw_skip (fun _ _ _ ht => wanted_x rfl (ht 44 rfl) rfl) ?_
          refine Dw_skip (fun _ _ _ ht => wanted_x rfl (ht 44 rfl) rfl) ?_
          refine Dw_skip (fun _ _ _ ht => wanted_x rfl (ht 44 rfl) rfl) ?_
          refine Dw_skip (fun _ _ _ ht => wanted_x rfl (ht 44 rfl) rfl) ?_
          refine Dw_nil fun w376 g377 hl378 hi379 => ?_
          obtain ⟨-, hst380, -⟩ := hl378
          obtain ⟨hs382, p381⟩ := Step.nx hi379
          rintro _ rfl
          rintro _ rfl
          rintro _ rfl
          rintro _ rfl
          rintro _ rfl
          rintro _ rfl
          rintro _ rfl
          rintro _ rfl
          rintro _ rfl
          rintro _ rfl
          rintro _ rfl
          rintro _ rfl
          rintro _ rfl
          rintro _ rfl
          rintro _ rfl
          rintro _ rfl
          rintro v383 h384
          replace h384 : Vr.vd (vI .i64) _ _ _ _ := h384
          obtain ⟨rfl, r_y385⟩ := h384
          rintro _ ⟨p386, rfl, f387⟩
          rintro _ rfl
          rintro v388 h389
          replace h389 : Vr.vd (vC (rSl (rInt .i64))) _ _ _ _ := h389
          obtain ⟨a_y390, c_y390, rfl, f_y390⟩ := un_sl h389
          rintro _ ⟨p391, rfl, f392⟩
          rintro v393 h394
          replace h394 : Vr.vd (vI .i64) _ _ _ _ := h394
          obtain ⟨rfl, r_y395⟩ := h394
          rintro _ ⟨p396, rfl, f397⟩
          rintro _ rfl
          rintro v398 h399
          replace h399 : Vr.vd (vC (rSl (rInt .i64))) _ _ _ _ := h399
          obtain ⟨a_y400, c_y400, rfl, f_y400⟩ := un_sl h399
          rintro v401 h402
          replace h402 : Vr.vd (vC (rSl (rSl (rInt .i64)))) _ _ _ _ := h402
          obtain ⟨a_y403, c_y403, rfl, f_y403⟩ := un_sl h402
          rintro _ ⟨p404, rfl, f405⟩
          have p406 : Step (ks [] Oz59) w67 (ks [] Oz59) w376 := hst380.trans p381
          replace f387 := f387.step p381
          replace f_y390 := f_y390.step p381
          replace f392 := f392.step p381
          replace f397 := f397.step p381
          replace f_y400 := f_y400.step p381
          replace f_y403 := f_y403.step p381
          replace f405 := f405.step p381
          replace f_begin := f_begin.step p406
          replace f_fv0_ := f_fv0_.step p406
          replace f_fv2_ := f_fv2_.step p406
          replace f_fv3_ := f_fv3_.step p406
          replace f_y53 := f_y53.step p406
          replace ch72 := ch72.trans p406
          clear p406 hs68
          refine Rg_opx rfl (asB_ne rfl rfl) rfl ?_
          refine Rg_opx rfl (asB_ne rfl rfl) rfl ?_
          refine Rg_op rfl (op_pick_f (v := (Value.bool false)) rfl rfl ?_)
          refine Rg_nil ?_
          refine Wp_cond_f rfl ?_
          refine Wp_skip ?_
          clear f387 f_y390 f392 f397 f_y400 f_y403 f405
          refine Wp_reset2 [6, 9, 22, 23, 24, 25, 26, 27, 28, 29, 30, 31, 32, 33, 34, 35, 36, 37, 38, 39, 40, 41, 42, 43, 44, 45, 46, 47, 48, 49, 50, 51, 52, 53, 54, 55, 56] [] (updL ⟨ξ62, []⟩ [(0, (Value.slice a_begin begin.length c_begin)), (1, (Value.pointer (some p_fv0_))), (3, (Value.pointer (some p_fv2_))), (4, (Value.pointer (some p_fv3_))), (7, (Value.int .i64 (begin.length : Int))), (20, (Value.slice a_y53 fv0_.length c_y53)), (21, (Value.int .i64 (fv0_.length : Int))), (22, (Value.int .i64 0))]) [(22, (Value.int .i64 v_1))] (by repeat (first | with_reducible exact Out.refl _ _ | refine Out.upd ?_ rfl | refine Out.updL ?_ rfl | refine Out.mix' ?_ rfl | exact Out.refl _ _)) rfl ⟨rfl, trivial⟩ fun ξ407 => ?_
          refine Wp_region ?_  -- 9 coalition.go:102
          refine Rg_op rfl (op_addw rfl rfl ?_)
          refine Rg_op rfl (op_move (v := (Value.int .i64 (IntKind.wrap .i64 (v_1 + 1)))) rfl ?_)
          refine Rg_nil ?_
          exact hK65 _ _ ⟨(IntKind.wrap .i64 (v_1 + 1)), xr55, pre56, wz57, Kz58, Oz59, _, rfl, ⟨(by repeat (first | with_reducible exact Out.refl _ _ | refine Out.upd ?_ rfl | refine Out.updL ?_ rfl | refine Out.mix' ?_ rfl | exact Out.refl _ _)), rfl, rfl, trivial⟩, ch72, hs382, (inK_wrap .i64 _), hI60, hL61, jnE1 hsf64 hm⟩
      ·
        replace hm := bif_f hm hc73
        refine Wp_exit ?_
        refine Wp_seq ?_
        clear f_begin f_fv0_ f_fv2_ f_fv3_ f_y53
        refine Wp_region ?_  -- 10 coalition.go:107
        refine Rg_op rfl (op_assign (v := (Value.bool true)) rfl ?_)
        refine Rg_nil ?_
        refine Wp_ret ?_
        have h408 := hI60.fin hJ hs68
        rw [← Option.some.inj hm, List.append_nil] at hL61; rw [← hL61] at h408
        exact ⟨_, (show Closes [] _ _ from rfl), [Value.bool true], ⟨rfl, trivial⟩, _, .inl ⟨rfl, h408⟩⟩

end Go.Fx


set_option linter.unusedVariables false
set_option linter.unusedSimpArgs false
set_option maxRecDepth 100000
set_option maxHeartbeats 0
namespace Go.Fx
open Go Go.RowKit Go.Proofs
def m79_coalition_deviations_1 (fv0_ : List Int) (fv1_ : XRound) : Option (List (List Int)) :=
  apl ((fixO (fun fx20 x21 => m80_coalition_deviations_1_1 x21 fv0_ fv1_ fx20) 1000000) ([] : List Int)) (
  some ([] : List (List Int)))

theorem c79_coalition_deviations_1 {w : World} {O : List Nat} {fv0_ : List Int} {fv1_ : XRound} {p_fv0_ : Addr} {p_fv1_ : Addr} (hO : ∀ k ∈ O, k < w.heap.size) (f_fv0_ : PtR (rSl (rInt .i64)) w O p_fv0_ fv0_) (f_fv1_ : PtR rXRound w O p_fv1_ fv1_) {L : List (List Int)} (hm : m79_coalition_deviations_1 fv0_ fv1_ = some L) :
    IterF Try.prog w O 79 [(Value.pointer (some p_fv0_)), (Value.pointer (some p_fv1_))] (enc1 (vC (rSl (rInt .i64)))) L := by
  unfold m79_coalition_deviations_1 at hm
  obtain ⟨x, hm, hL⟩ : ∃ x, _ = some x ∧ L = [] ++ x := ⟨L, hm, rfl⟩
  intro w1 O1 hst0 hO1 l J Jx hJ hJx hY h0
  replace f_fv0_ := f_fv0_.step hst0
  replace f_fv1_ := f_fv1_.step hst0
  refine Fn_of_Wp (n := 8) (xs := []) Try.func79 rfl Try.ntmps79 Try.results79 rfl ?_
  have hs := St.start hO1
  have hI := Itr.start h0
  refine Wp_seq ?_
  refine Wp_region ?_  -- 0 coalition.go:95
  refine Rg_op rfl (op_box (cs := [(Value.func (.yield l) #[] #[])]) hs rfl rfl ?_)
  intro b1 w2 _ p3 hs4
  replace f_fv0_ := f_fv0_.step p3
  replace f_fv1_ := f_fv1_.step p3
  clear p3
  refine Rg_nil ?_
  refine Wp_seq ?_
  refine Wp_region ?_  -- 1 coalition.go:96
  refine Rg_op rfl (op_alloc ty75 hs4 ?_)
  intro b6 w7 _ p8 hs9
  replace f_fv0_ := f_fv0_.step p8
  replace f_fv1_ := f_fv1_.step p8
  clear p8 hs4
  refine Rg_nil ?_
  refine Wp_seq ?_
  refine Wp_region ?_  -- 2 coalition.go:97
  obtain ⟨hs12, p13, f11⟩ := St.publishP (p := rVal (Value.func (.yield l) #[] #[]) rfl) (i := 1) (x := ()) hs9 rfl rfl
  replace f_fv0_ := f_fv0_.step p13
  replace f_fv1_ := f_fv1_.step p13
  clear p13 hs9
  refine Rg_op rfl (op_makeFunc' (a' := []) (c' := [(Value.pointer (some p_fv0_)), (Value.pointer (some (⟨b1, 0, none⟩ : Addr))), (Value.pointer (some p_fv1_)), (Value.pointer (some ⟨b6, 0, none⟩))]) rfl rfl ?_)
  refine Rg_op_ (op_store (cs := [Value.nilFunc]) (vs := [(Value.func (.func 80) #[] #[(Value.pointer (some p_fv0_)), (Value.pointer (some (⟨b1, 0, none⟩ : Addr))), (Value.pointer (some p_fv1_)), (Value.pointer (some ⟨b6, 0, none⟩))])]) (cs' := [(Value.func (.func 80) #[] #[(Value.pointer (some p_fv0_)), (Value.pointer (some (⟨b1, 0, none⟩ : Addr))), (Value.pointer (some p_fv1_)), (Value.pointer (some ⟨b6, 0, none⟩))])]) (bs' := [(some b6, Obj.cells [(Value.func (.func 80) #[] #[(Value.pointer (some p_fv0_)), (Value.pointer (some (⟨b1, 0, none⟩ : Addr))), (Value.pointer (some p_fv1_)), (Value.pointer (some ⟨b6, 0, none⟩))])].toArray 75)]) (i := 0) ty75 hs12 rfl rfl rfl rfl rfl (le_lit rfl) rfl rfl rfl ?_)
  intro w14 p15 hs16
  replace f_fv0_ := f_fv0_.step p15
  replace f_fv1_ := f_fv1_.step p15
  replace f11 := f11.step p15
  clear p15 hs12
  obtain ⟨hs18, p19, f17⟩ := St.publishP (p := rVal (Value.func (.func 80) #[] #[(Value.pointer (some p_fv0_)), (Value.pointer (some (⟨b1, 0, none⟩ : Addr))), (Value.pointer (some p_fv1_)), (Value.pointer (some ⟨b6, 0, none⟩))]) rfl) (i := 0) (x := ()) hs16 rfl rfl
  replace f_fv0_ := f_fv0_.step p19
  replace f_fv1_ := f_fv1_.step p19
  replace f11 := f11.step p19
  clear p19 hs16
  have F22 : ∀ n, SubIt1 Try.prog (enc1 (vC (rSl (rInt .i64)))) l w14 (ks [] O1) (Value.func (.func 80) #[] #[(Value.pointer (some p_fv0_)), (Value.pointer (some (⟨b1, 0, none⟩ : Addr))), (Value.pointer (some p_fv1_)), (Value.pointer (some ⟨b6, 0, none⟩))]) (vC (rSl (rInt .i64))) (fixO (fun fx20 x21 => m80_coalition_deviations_1_1 x21 fv0_ fv1_ fx20) n) := by
    refine SubIt1.fix (fun fx20 hfx23 => ⟨⟨_, _, rfl⟩, ?_⟩)
    intro w24 O25 s26 hO27 J28 Jx29 hJ30 hJx31 v32 x33 L34 hv35 hfa36 hY37 h38
    obtain ⟨a_y39, c_y39, rfl, f_y39⟩ := un_sl hv35
    exact ⟨80, #[], #[(Value.pointer (some p_fv0_)), (Value.pointer (some (⟨b1, 0, none⟩ : Addr))), (Value.pointer (some p_fv1_)), (Value.pointer (some ⟨b6, 0, none⟩))], rfl, Try.call80, c80_coalition_deviations_1_1 hO27 f_y39 (f_fv0_.step s26) (f11.step s26) (f_fv1_.step s26) ((f17.step s26).sb (hfx23.step s26)) hJ30 hJx31 hfa36 hY37 h38⟩
  have f40 := f17.sb (F22 1000000); clear F22
  refine Rg_nil ?_
  clear f_fv0_ f_fv1_ f11 f17
  refine Wp_region ?_  -- 3 coalition.go:109
  refine Rg_op rfl (op_loadP ty75 rfl f40 rfl ?_)
  intro v41 h42
  have F43 := un_sb h42; clear h42
  replace hm := apl_elim hm; obtain ⟨A44, xr45, ha46, hm, hL47⟩ := hm
  rw [hL47] at hL
  refine Rg_op rfl (op_subcall (pre := ([] : List _)) (Lx := A44) rfl F43 rfl (show Vr.vd (vC (rSl (rInt .i64))) _ _ _ _ from (mkC (mk_sl SlR.nil_))) ha46 hY hJ hJx hI hs18 ⟨xr45, by rw [hL]; simp⟩ ?_ ?_)
  ·
    intro w48 O49 hs50 p51 hI52
    replace f40 := f40.step p51
    replace F43 := F43.step p51
    clear p51 hs18
    have hL53 : L = (([] : List _) ++ A44) ++ xr45 := by rw [hL]; simp
    refine Rg_nil ?_
    have h54 := hI52.fin hJ hs50
    rw [← Option.some.inj hm, List.append_nil] at hL53; rw [← hL53] at h54
    exact ⟨_, (show Closes [] _ _ from rfl), [], trivial, _, .inl h54⟩
  ·
    intro w55 O56 _ hs57 hI59
    refine Rg_nil ?_
    exact ⟨_, (show Closes [] _ _ from rfl), [], trivial, _, .inr ⟨_, hI59.fin hJx hs57⟩⟩

end Go.Fx


set_option linter.unusedVariables false
set_option linter.unusedSimpArgs false
set_option maxRecDepth 100000
set_option maxHeartbeats 0
namespace Go.Fx
open Go Go.RowKit Go.Proofs
def m63_coalition_deviations (r_ : XRound) (flights : List Int) : Option (List (List Int)) :=
  (m79_coalition_deviations_1 flights r_).bind fun l_1 =>
  some l_1

theorem c63_coalition_deviations {w : World} {O : List Nat} {r_ : XRound} {flights : List Int} {a_r__owners : Option Addr} {c_r__owners : Nat} {a_r__costs : Option Addr} {c_r__costs : Nat} {a_flights : Option Addr} {c_flights : Nat} (hO : ∀ k ∈ O, k < w.heap.size) (r_r__slots : InK .i64 r_.slots) (f_r__owners : SlR (rInt .i64) w O a_r__owners c_r__owners r_.owners) (f_r__costs : SlR (rSl (rInt .i64)) w O a_r__costs c_r__costs r_.costs) (f_flights : SlR (rInt .i64) w O a_flights c_flights flights) {x : (List (List Int))} (hm : m63_coalition_deviations r_ flights = some x) :
    Ok Try.prog 63 [(Value.agg [(Value.int .i64 r_.slots), (Value.slice a_r__owners r_.owners.length c_r__owners), (Value.slice a_r__costs r_.costs.length c_r__costs)].toArray), (Value.slice a_flights flights.length c_flights)] w O (vIt Try.prog (enc1 (vC (rSl (rInt .i64))))) x := by
  unfold m63_coalition_deviations at hm
  refine Fn_of_Wp (n := 6) (xs := [.tmp 4]) Try.func63 rfl Try.ntmps63 Try.results63 rfl ?_
  have hs := St.start hO
  refine Wp_seq ?_
  refine Wp_region ?_  -- 0 coalition.go:94
  refine Rg_op rfl (op_box (cs := [(Value.int .i64 r_.slots), (Value.slice a_r__owners r_.owners.length c_r__owners), (Value.slice a_r__costs r_.costs.length c_r__costs)]) hs rfl rfl ?_)
  intro b1 w2 _ p3 hs4
  replace f_r__owners := f_r__owners.step p3
  replace f_r__costs := f_r__costs.step p3
  replace f_flights := f_flights.step p3
  clear p3
  refine Rg_op rfl (op_box (cs := [(Value.slice a_flights flights.length c_flights)]) hs4 rfl rfl ?_)
  intro b6 w7 _ p8 hs9
  replace f_r__owners := f_r__owners.step p8
  replace f_r__costs := f_r__costs.step p8
  replace f_flights := f_flights.step p8
  clear p8 hs4
  refine Rg_op rfl (op_assign (v := Value.nilFunc) rfl ?_)
  refine Rg_nil ?_
  refine Wp_seq ?_
  refine Wp_region ?_  -- 1 coalition.go:95
  obtain ⟨hs12, p13, f11⟩ := St.publishP (p := (rSl (rInt .i64))) (i := 0) (x := flights) hs9 rfl (mk_sl f_flights)
  replace f_r__owners := f_r__owners.step p13
  replace f_r__costs := f_r__costs.step p13
  replace f_flights := f_flights.step p13
  clear p13 hs9
  obtain ⟨hs15, p16, f14⟩ := St.publishP (p := rXRound) (i := 0) (x := r_) hs12 rfl (mkVia (mk_pair (mk_int r_r__slots) (mk_pair (mk_sl f_r__owners) (mk_sl f_r__costs))))
  replace f_r__owners := f_r__owners.step p16
  replace f_r__costs := f_r__costs.step p16
  replace f_flights := f_flights.step p16
  replace f11 := f11.step p16
  clear p16 hs12
  refine Rg_op rfl (op_makeFunc' (a' := []) (c' := [(Value.pointer (some (⟨b6, 0, none⟩ : Addr))), (Value.pointer (some (⟨b1, 0, none⟩ : Addr)))]) rfl rfl ?_)
  replace hm := bd hm; obtain ⟨l_1, hv17, hm⟩ := hm
  have F18 : ItR Try.prog (enc1 (vC (rSl (rInt .i64)))) w7 (ks [] O) (Value.func (.func 79) #[] #[(Value.pointer (some (⟨b6, 0, none⟩ : Addr))), (Value.pointer (some (⟨b1, 0, none⟩ : Addr)))]) l_1 := ⟨79, [(Value.pointer (some (⟨b6, 0, none⟩ : Addr))), (Value.pointer (some (⟨b1, 0, none⟩ : Addr)))], rfl, Try.call79, c79_coalition_deviations_1 hs15.ltw f11 f14 hv17⟩
  refine Rg_op rfl (op_assign (v := (Value.func (.func 79) #[] #[(Value.pointer (some (⟨b6, 0, none⟩ : Addr))), (Value.pointer (some (⟨b1, 0, none⟩ : Addr)))])) rfl ?_)
  refine Rg_nil ?_
  refine Wp_ret ?_
  have hz := step_all hs15
  replace f_r__owners := f_r__owners.step hz
  replace f_r__costs := f_r__costs.step hz
  replace f_flights := f_flights.step hz
  replace f11 := f11.step hz
  replace f14 := f14.step hz
  replace F18 := F18.step hz
  refine ⟨_, (show Closes [] _ _ from rfl), [(Value.func (.func 79) #[] #[(Value.pointer (some (⟨b6, 0, none⟩ : Addr))), (Value.pointer (some (⟨b1, 0, none⟩ : Addr)))])], ⟨rfl, trivial⟩, hs15.ext, ?_⟩
  exact Vr.eq (a := (vIt Try.prog (enc1 (vC (rSl (rInt .i64)))))) (x := l_1) F18 (Option.some.inj hm)

end Go.Fx


set_option linter.unusedVariables false
set_option linter.unusedSimpArgs false
set_option maxRecDepth 100000
set_option maxHeartbeats 0
namespace Go.Fx
open Go Go.RowKit Go.Proofs
def m40_coalition_blocks_B2 (than : List Int) (group : List Int) (k97 : Bool → (List Int) → Option ((List Int) × Bool)) (v_3 : Bool) (v_4 : List Int) (sf115 : Bool → (List Int) → Option ((List Int) × Bool)) (xi106 : (List Int)) (costs_1 : (List Int)) (sf145 : Int → Option ((List Int) × Bool)) (v_5 : Int) : Option ((List Int) × Bool) :=
  bif (decide (v_5 < (group.length : Int))) then
    ck ((0 : Int) ≤ v_5 ∧ v_5 < (group.length : Int)) <|
    ck ((0 : Int) ≤ (group.getD v_5.toNat default) ∧ (group.getD v_5.toNat default) < (costs_1.length : Int)) <|
    ck ((0 : Int) ≤ (group.getD v_5.toNat default) ∧ (group.getD v_5.toNat default) < (than.length : Int)) <|
    bif (decide ((than.getD (group.getD v_5.toNat default).toNat default) ≤ (costs_1.getD (group.getD v_5.toNat default).toNat default))) then
      sf115 v_3 v_4
    else
      sf145 (IntKind.wrap .i64 (v_5 + 1))
  else
    k97 true xi106

def m40_coalition_blocks_B1 (r_ : XRound) (than : List Int) (group : List Int) (v_2 : List Int) (k97 : Bool → (List Int) → Option ((List Int) × Bool)) (sf115 : Bool → (List Int) → Option ((List Int) × Bool)) (xi106 : (List Int)) (v_3 : Bool) (v_4 : List Int) : Option ((List Int) × Bool) :=
  (m41_coalition_costs r_ v_2 xi106).bind fun costs_1 =>
  loop1 (m40_coalition_blocks_B2 than group k97 v_3 v_4 sf115 xi106 costs_1) (((group.length : Int) - 0).toNat + 1) 0

def m40_coalition_blocks_B0 (r_ : XRound) (than : List Int) (group : List Int) (sf35 : Int → (List Int) → Option ((List Int) × Bool)) (v_1 : Int) (v_2 : List Int) : Option ((List Int) × Bool) :=
  bif (decide (v_1 < (r_.owners.length : Int))) then
    ck ((0 : Int) ≤ v_1 ∧ v_1 < (r_.owners.length : Int)) <|
    (m43_slices_Containsint_int_ group (r_.owners.getD v_1.toNat default)).bind fun contains_1 =>
    bif contains_1 then
      ck ((v_2.length + [v_1].length) * 8 ≤ 140737488355328) <|
      sf35 (IntKind.wrap .i64 (v_1 + 1)) (v_2 ++ [v_1])
    else
      sf35 (IntKind.wrap .i64 (v_1 + 1)) v_2
  else
    (m63_coalition_deviations r_ v_2).bind fun deviations_1 =>
    jn (fun (v_3 : Bool) (v_4 : List Int) =>
      some (([] : List Int), false))
    (fun k95 =>
      jn (fun (v_3 : Bool) (v_4 : List Int) =>
        some (v_4, v_3))
      (fun k97 =>
        rng2 (m40_coalition_blocks_B1 r_ than group v_2 k97) k95 deviations_1 false ([] : List Int)))

def m40_coalition_blocks (r_ : XRound) (than : List Int) (group : List Int) : Option ((List Int) × Bool) :=
  loop2 (m40_coalition_blocks_B0 r_ than group) (((r_.owners.length : Int) - 0).toNat + 1) 0 ([] : List Int)

theorem c40_coalition_blocks {w : World} {O : List Nat} {r_ : XRound} {than : List Int} {group : List Int} {a_r__owners : Option Addr} {c_r__owners : Nat} {a_r__costs : Option Addr} {c_r__costs : Nat} {a_than : Option Addr} {c_than : Nat} {a_group : Option Addr} {c_group : Nat} (hO : ∀ k ∈ O, k < w.heap.size) (r_r__slots : InK .i64 r_.slots) (f_r__owners : SlR (rInt .i64) w O a_r__owners c_r__owners r_.owners) (f_r__costs : SlR (rSl (rInt .i64)) w O a_r__costs c_r__costs r_.costs) (f_than : SlR (rInt .i64) w O a_than c_than than) (f_group : SlR (rInt .i64) w O a_group c_group group) {x : (List Int) × Bool} (hm : m40_coalition_blocks r_ than group = some x) :
    Ok Try.prog 40 [(Value.agg [(Value.int .i64 r_.slots), (Value.slice a_r__owners r_.owners.length c_r__owners), (Value.slice a_r__costs r_.costs.length c_r__costs)].toArray), (Value.slice a_than than.length c_than), (Value.slice a_group group.length c_group)] w O (vT2 (vC (rSl (rInt .i64))) vB) x := by
  unfold m40_coalition_blocks at hm
  refine Fn_of_Wp (n := 56) (xs := [.cell 6 22, .cell 7 4]) Try.func40 rfl Try.ntmps40 Try.results40 rfl ?_
  have hs := St.start hO
  refine Wp_seq ?_
  refine Wp_region ?_  -- 0 coalition.go:114
  refine Rg_op rfl (op_box (cs := [(Value.int .i64 r_.slots), (Value.slice a_r__owners r_.owners.length c_r__owners), (Value.slice a_r__costs r_.costs.length c_r__costs)]) hs rfl rfl ?_)
  intro b1 w2 _ p3 hs4
  replace f_r__owners := f_r__owners.step p3
  replace f_r__costs := f_r__costs.step p3
  replace f_than := f_than.step p3
  replace f_group := f_group.step p3
  clear p3
  refine Rg_op rfl (op_box (cs := [(Value.slice a_than than.length c_than)]) hs4 rfl rfl ?_)
  intro b6 w7 _ p8 hs9
  replace f_r__owners := f_r__owners.step p8
  replace f_r__costs := f_r__costs.step p8
  replace f_than := f_than.step p8
  replace f_group := f_group.step p8
  clear p8 hs4
  refine Rg_op rfl (op_box (cs := [(Value.slice a_group group.length c_group)]) hs9 rfl rfl ?_)
  intro b11 w12 _ p13 hs14
  replace f_r__owners := f_r__owners.step p13
  replace f_r__costs := f_r__costs.step p13
  replace f_than := f_than.step p13
  replace f_group := f_group.step p13
  clear p13 hs9
  refine Rg_op rfl (op_alloc ty22 hs14 ?_)
  intro b16 w17 _ p18 hs19
  replace f_r__owners := f_r__owners.step p18
  replace f_r__costs := f_r__costs.step p18
  replace f_than := f_than.step p18
  replace f_group := f_group.step p18
  clear p18 hs14
  refine Rg_op rfl (op_alloc ty4 hs19 ?_)
  intro b21 w22 _ p23 hs24
  replace f_r__owners := f_r__owners.step p23
  replace f_r__costs := f_r__costs.step p23
  replace f_than := f_than.step p23
  replace f_group := f_group.step p23
  clear p23 hs19
  refine Rg_nil ?_
  refine Wp_scope ?_
  refine Wp_seq ?_
  refine Wp_region ?_  -- 1 coalition.go:115
  refine Rg_op rfl (op_alloc ty22 hs24 ?_)
  intro b26 w27 _ p28 hs29
  replace f_r__owners := f_r__owners.step p28
  replace f_r__costs := f_r__costs.step p28
  replace f_than := f_than.step p28
  replace f_group := f_group.step p28
  clear p28 hs24
  refine Rg_nil ?_
  refine Wp_seq ?_
  refine Wp_seq ?_
  refine Wp_region ?_  -- 2 coalition.go:116
  refine Rg_op rfl (op_fieldAddr ty25 rfl ty22 (by decide) rfl (rfl : _ = (⟨_, 1, none⟩ : Addr)) ?_)
  refine Rg_op rfl (op_load (cs := [(Value.int .i64 r_.slots), (Value.slice a_r__owners r_.owners.length c_r__owners), (Value.slice a_r__costs r_.costs.length c_r__costs)]) (i := 5) ty22 hs29 rfl rfl rfl ?_)
  refine Rg_op rfl (op_len Try.underlying22 rfl ?_)
  refine Rg_op rfl (op_move (v := (Value.int .i64 0)) rfl ?_)
  refine Rg_nil ?_
  refine Wp_block ?_
  refine Wp_reset [] [(3, (Value.pointer (some ⟨b1, 0, none⟩))), (4, (Value.pointer (some ⟨b6, 0, none⟩))), (5, (Value.pointer (some ⟨b11, 0, none⟩))), (6, (Value.pointer (some ⟨b16, 0, none⟩))), (7, (Value.pointer (some ⟨b21, 0, none⟩))), (8, (Value.pointer (some ⟨b26, 0, none⟩))), (16, (Value.slice a_r__owners r_.owners.length c_r__owners)), (17, (Value.int .i64 (r_.owners.length : Int))), (18, (Value.int .i64 0))] rfl ⟨rfl, rfl, rfl, rfl, rfl, rfl, rfl, rfl, rfl, trivial⟩ fun ξ34 => ?_
  have hs39 := hs29.ghost (Obj.cells #[] 3)
  refine Wp_loopM [9, 10, 18, 19, 20, 21, 22, 23, 24, 25, 26, 27, 28, 29, 30] (fun m fr w' => ∃ (v_1 : Int) (v_2 : List Int) (a_g33 : Option Addr) (c_g33 : Nat) (k_g33 : Option Nat) (o_g33 : Obj) (Ebs : Ents), Ebs = [(k_g33, o_g33), (some b26, Obj.cells [(Value.slice a_g33 v_2.length c_g33)].toArray 22), (some b21, Obj.cells [(Value.bool false)].toArray 4), (some b16, Obj.cells [(Value.slice none 0 0)].toArray 22), (some b11, Obj.cells [(Value.slice a_group group.length c_group)].toArray 22), (some b6, Obj.cells [(Value.slice a_than than.length c_than)].toArray 22), (some b1, Obj.cells [(Value.int .i64 r_.slots), (Value.slice a_r__owners r_.owners.length c_r__owners), (Value.slice a_r__costs r_.costs.length c_r__costs)].toArray 25)] ∧ fr [] [(18, (Value.int .i64 v_1))] ∧ Step (ks [(none, (Obj.cells #[] 3)), (some b26, Obj.cells [(Value.slice none 0 0)].toArray 22), (some b21, Obj.cells [(Value.bool false)].toArray 4), (some b16, Obj.cells [(Value.slice none 0 0)].toArray 22), (some b11, Obj.cells [(Value.slice a_group group.length c_group)].toArray 22), (some b6, Obj.cells [(Value.slice a_than than.length c_than)].toArray 22), (some b1, Obj.cells [(Value.int .i64 r_.slots), (Value.slice a_r__owners r_.owners.length c_r__owners), (Value.slice a_r__costs r_.costs.length c_r__costs)].toArray 25)] O) w27 (ks Ebs O) w' ∧ St ⟨w, [], []⟩ O w' Ebs ∧ InK .i64 v_1 ∧ Gs (rInt .i64) 3 w' (ks Ebs O) a_g33 c_g33 v_2 k_g33 o_g33 ∧ loop2 (m40_coalition_blocks_B0 r_ than group) m v_1 v_2 = some x) (((r_.owners.length : Int) - 0).toNat + 1) ⟨0, ([] : List Int), none, 0, none, (Obj.cells #[] 3), _, rfl, ⟨Out.refl _ _, rfl, rfl, trivial⟩, Step.refl _ _, hs39, (show InK .i64 0 from by decide), Gs.nil_, hm⟩ ?_ ?_
  · rintro _ _ ⟨_, _, _, _, _, _, _, _, _, _, _, _, _, hm⟩; exact loop2_z hm
  · rintro m38 K37 hK37 ρ45 w41 ⟨v_1, v_2, a_g33, c_g33, k_g33, o_g33, Ebs, hEbs, hfr44, hst43, hs42, r_y31, f_g33, hm⟩
    obtain ⟨sf35, hsf36, hm⟩ := loop2_s hm; unfold m40_coalition_blocks_B0 at hm
    subst hEbs; rw [hfr44.eq]; clear hfr44
    replace f_r__owners := f_r__owners.step hst43
    replace f_r__costs := f_r__costs.step hst43
    replace f_than := f_than.step hst43
    replace f_group := f_group.step hst43
    have ch46 := hst43
    refine Wp_seq ?_
    refine Wp_region ?_  -- 3 coalition.go:116
    refine Rg_op rfl (op_lss rfl rfl ?_)
    refine Rg_nil ?_
    refine Wp_seq ?_
    refine Wp_cond rfl (fun hc47 => ?_) (fun hc47 => ?_)
    ·
      replace hm := bif_t hm hc47
      refine Wp_skip ?_
      refine Wp_seq ?_
      refine Wp_block ?_
      refine Wp_seq ?_
      refine Wp_region ?_  -- 4 coalition.go:116
      refine Rg_op rfl (op_move (v := (Value.int .i64 v_1)) rfl ?_)
      replace hm := ck_some hm; obtain ⟨hc48, hm⟩ := hm
      refine Rg_op rfl (op_indexAddr (q := (rInt .i64)) ty22 ty3 rfl rfl f_r__owners rfl hc48.1 hc48.2 ?_)
      intro p49 f50
      refine Rg_op rfl (op_loadP ty3 rfl f50 rfl ?_)
      intro v51 h52
      obtain ⟨rfl, r_y53⟩ := un_int h52
      refine Rg_op rfl (op_assign (v := (Value.int .i64 v_1)) rfl ?_)
      refine Rg_op rfl (op_assign (v := (Value.int .i64 (r_.owners.getD v_1.toNat default))) rfl ?_)
      refine Rg_nil ?_
      refine Wp_seq ?_
      clear f50
      refine Wp_region ?_  -- 5 coalition.go:117
      refine Rg_op rfl (op_load (cs := [(Value.slice a_group group.length c_group)]) (i := 4) ty22 hs42 rfl rfl rfl ?_)
      refine Rg_op rfl (op_move (v := (Value.int .i64 (r_.owners.getD v_1.toNat default))) rfl ?_)
      replace hm := bd hm; obtain ⟨contains_1, hv54, hm⟩ := hm
      refine Rg_op rfl (op_call Try.call43 (c43_slices_Containsint_int_ (s := group) (v := (r_.owners.getD v_1.toNat default)) hs42.ltw f_group r_y53 hv54) rfl ?_)
      rintro v55 w56 ⟨hx57, h58⟩
      have hs59 := hs42.call hx57
      have p60 := Step.ext (O := ks [(k_g33, o_g33), (some b26, Obj.cells [(Value.slice a_g33 v_2.length c_g33)].toArray 22), (some b21, Obj.cells [(Value.bool false)].toArray 4), (some b16, Obj.cells [(Value.slice none 0 0)].toArray 22), (some b11, Obj.cells [(Value.slice a_group group.length c_group)].toArray 22), (some b6, Obj.cells [(Value.slice a_than than.length c_than)].toArray 22), (some b1, Obj.cells [(Value.int .i64 r_.slots), (Value.slice a_r__owners r_.owners.length c_r__owners), (Value.slice a_r__costs r_.costs.length c_r__costs)].toArray 25)] O) hx57
      clear hx57
      replace f_r__owners := f_r__owners.step p60
      replace f_r__costs := f_r__costs.step p60
      replace f_than := f_than.step p60
      replace f_group := f_group.step p60
      replace f_g33 := f_g33.step p60
      replace ch46 := ch46.trans p60
      clear p60 hs42
      obtain rfl := h58
      refine Rg_nil ?_
      refine Wp_cond rfl (fun hc62 => ?_) (fun hc62 => ?_)
      ·
        replace hm := bif_t hm hc62
        refine Wp_region ?_  -- 6 coalition.go:118
        refine Rg_op rfl (op_load (cs := [(Value.slice a_g33 v_2.length c_g33)]) (i := 1) ty22 hs59 rfl rfl rfl ?_)
        refine Rg_op rfl (op_move (v := (Value.int .i64 v_1)) rfl ?_)
        refine Rg_op rfl (op_buildSlice (cs := [(Value.int .i64 v_1)]) (parts := [(0, .tmp 27)]) ty22 ty3 hs59 (by decide) rfl ?_)
        intro b63 w64 hx67 p65 hs66
        replace f_r__owners := f_r__owners.step p65
        replace f_r__costs := f_r__costs.step p65
        replace f_than := f_than.step p65
        replace f_group := f_group.step p65
        replace f_g33 := f_g33.step p65
        replace ch46 := ch46.trans p65
        clear p65 hs59
        replace hm := ck_some hm; obtain ⟨hc69, hm⟩ := hm
        refine Rg_op rfl (op_append (q := (rInt .i64)) (i := 1) (xs := v_2) (ys := [v_1]) (news := [(Value.int .i64 v_1)]) ty22 ty3 rfl (by decide) hs66 rfl rfl f_g33 rfl (Src.owned' (len := 1) (hs66.get (i := 0) rfl) rfl) (show Els (rInt .i64) _ _ [(Value.int .i64 v_1)] [v_1] from ⟨_, _, rfl, (mk_int r_y31), Els.nil⟩) hc69 (by have := hc69; simp only [maxLen]; omega) ?_)
        intro a73 c74 k75 o76 w70 p71 hs72 f77
        replace f_r__owners := f_r__owners.step p71
        replace f_r__costs := f_r__costs.step p71
        replace f_than := f_than.step p71
        replace f_group := f_group.step p71
        replace ch46 := ch46.trans p71
        clear p71 hs66
        have hs78 := hs72.drop 0
        replace f_r__owners := f_r__owners.step (Step.drop _ _ [(some b63, Obj.cells [(Value.int .i64 v_1)].toArray 3), (k75, o76), (some b26, Obj.cells [(Value.slice a_g33 v_2.length c_g33)].toArray 22), (some b21, Obj.cells [(Value.bool false)].toArray 4), (some b16, Obj.cells [(Value.slice none 0 0)].toArray 22), (some b11, Obj.cells [(Value.slice a_group group.length c_group)].toArray 22), (some b6, Obj.cells [(Value.slice a_than than.length c_than)].toArray 22), (some b1, Obj.cells [(Value.int .i64 r_.slots), (Value.slice a_r__owners r_.owners.length c_r__owners), (Value.slice a_r__costs r_.costs.length c_r__costs)].toArray 25)] 0)
        replace f_r__costs := f_r__costs.step (Step.drop _ _ [(some b63, Obj.cells [(Value.int .i64 v_1)].toArray 3), (k75, o76), (some b26, Obj.cells [(Value.slice a_g33 v_2.length c_g33)].toArray 22), (some b21, Obj.cells [(Value.bool false)].toArray 4), (some b16, Obj.cells [(Value.slice none 0 0)].toArray 22), (some b11, Obj.cells [(Value.slice a_group group.length c_group)].toArray 22), (some b6, Obj.cells [(Value.slice a_than than.length c_than)].toArray 22), (some b1, Obj.cells [(Value.int .i64 r_.slots), (Value.slice a_r__owners r_.owners.length c_r__owners), (Value.slice a_r__costs r_.costs.length c_r__costs)].toArray 25)] 0)
        replace f_than := f_than.step (Step.drop _ _ [(some b63, Obj.cells [(Value.int .i64 v_1)].toArray 3), (k75, o76), (some b26, Obj.cells [(Value.slice a_g33 v_2.length c_g33)].toArray 22), (some b21, Obj.cells [(Value.bool false)].toArray 4), (some b16, Obj.cells [(Value.slice none 0 0)].toArray 22), (some b11, Obj.cells [(Value.slice a_group group.length c_group)].toArray 22), (some b6, Obj.cells [(Value.slice a_than than.length c_than)].toArray 22), (some b1, Obj.cells [(Value.int .i64 r_.slots), (Value.slice a_r__owners r_.owners.length c_r__owners), (Value.slice a_r__costs r_.costs.length c_r__costs)].toArray 25)] 0)
        replace f_group := f_group.step (Step.drop _ _ [(some b63, Obj.cells [(Value.int .i64 v_1)].toArray 3), (k75, o76), (some b26, Obj.cells [(Value.slice a_g33 v_2.length c_g33)].toArray 22), (some b21, Obj.cells [(Value.bool false)].toArray 4), (some b16, Obj.cells [(Value.slice none 0 0)].toArray 22), (some b11, Obj.cells [(Value.slice a_group group.length c_group)].toArray 22), (some b6, Obj.cells [(Value.slice a_than than.length c_than)].toArray 22), (some b1, Obj.cells [(Value.int .i64 r_.slots), (Value.slice a_r__owners r_.owners.length c_r__owners), (Value.slice a_r__costs r_.costs.length c_r__costs)].toArray 25)] 0)
        replace f77 := f77.step (Step.drop _ _ [(some b63, Obj.cells [(Value.int .i64 v_1)].toArray 3), (k75, o76), (some b26, Obj.cells [(Value.slice a_g33 v_2.length c_g33)].toArray 22), (some b21, Obj.cells [(Value.bool false)].toArray 4), (some b16, Obj.cells [(Value.slice none 0 0)].toArray 22), (some b11, Obj.cells [(Value.slice a_group group.length c_group)].toArray 22), (some b6, Obj.cells [(Value.slice a_than than.length c_than)].toArray 22), (some b1, Obj.cells [(Value.int .i64 r_.slots), (Value.slice a_r__owners r_.owners.length c_r__owners), (Value.slice a_r__costs r_.costs.length c_r__costs)].toArray 25)] 0)
        replace ch46 := ch46.trans (Step.drop _ _ [(some b63, Obj.cells [(Value.int .i64 v_1)].toArray 3), (k75, o76), (some b26, Obj.cells [(Value.slice a_g33 v_2.length c_g33)].toArray 22), (some b21, Obj.cells [(Value.bool false)].toArray 4), (some b16, Obj.cells [(Value.slice none 0 0)].toArray 22), (some b11, Obj.cells [(Value.slice a_group group.length c_group)].toArray 22), (some b6, Obj.cells [(Value.slice a_than than.length c_than)].toArray 22), (some b1, Obj.cells [(Value.int .i64 r_.slots), (Value.slice a_r__owners r_.owners.length c_r__owners), (Value.slice a_r__costs r_.costs.length c_r__costs)].toArray 25)] 0)
        clear hs72
        refine Rg_op_ (op_store (cs := [(Value.slice a_g33 v_2.length c_g33)]) (vs := [(Value.slice a73 (v_2 ++ [v_1]).length c74)]) (cs' := [(Value.slice a73 (v_2 ++ [v_1]).length c74)]) (bs' := [(k75, o76), (some b26, Obj.cells [(Value.slice a73 (v_2 ++ [v_1]).length c74)].toArray 22), (some b21, Obj.cells [(Value.bool false)].toArray 4), (some b16, Obj.cells [(Value.slice none 0 0)].toArray 22), (some b11, Obj.cells [(Value.slice a_group group.length c_group)].toArray 22), (some b6, Obj.cells [(Value.slice a_than than.length c_than)].toArray 22), (some b1, Obj.cells [(Value.int .i64 r_.slots), (Value.slice a_r__owners r_.owners.length c_r__owners), (Value.slice a_r__costs r_.costs.length c_r__costs)].toArray 25)]) (i := 1) ty22 hs78 rfl rfl rfl rfl rfl (le_lit rfl) rfl rfl rfl ?_)
        intro w79 p80 hs81
        replace f_r__owners := f_r__owners.step p80
        replace f_r__costs := f_r__costs.step p80
        replace f_than := f_than.step p80
        replace f_group := f_group.step p80
        replace f77 := f77.step p80
        replace ch46 := ch46.trans p80
        clear p80 hs78
        refine Rg_nil ?_
        refine Wp_region ?_  -- 7 coalition.go:116
        refine Rg_op rfl (op_addw rfl rfl ?_)
        refine Rg_op rfl (op_move (v := (Value.int .i64 (IntKind.wrap .i64 (v_1 + 1)))) rfl ?_)
        refine Rg_nil ?_
        exact hK37 _ _ ⟨(IntKind.wrap .i64 (v_1 + 1)), (v_2 ++ [v_1]), a73, c74, k75, o76, _, rfl, ⟨(by repeat (first | with_reducible exact Out.refl _ _ | refine Out.upd ?_ rfl | refine Out.updL ?_ rfl | refine Out.mix' ?_ rfl | exact Out.refl _ _)), rfl, rfl, trivial⟩, ch46, hs81, (inK_wrap .i64 _), f77, jnE2 hsf36 hm⟩
      ·
        replace hm := bif_f hm hc62
        refine Wp_skip ?_
        refine Wp_region ?_  -- 7 coalition.go:116
        refine Rg_op rfl (op_addw rfl rfl ?_)
        refine Rg_op rfl (op_move (v := (Value.int .i64 (IntKind.wrap .i64 (v_1 + 1)))) rfl ?_)
        refine Rg_nil ?_
        exact hK37 _ _ ⟨(IntKind.wrap .i64 (v_1 + 1)), v_2, a_g33, c_g33, k_g33, o_g33, _, rfl, ⟨(by repeat (first | with_reducible exact Out.refl _ _ | refine Out.upd ?_ rfl | refine Out.updL ?_ rfl | refine Out.mix' ?_ rfl | exact Out.refl _ _)), rfl, rfl, trivial⟩, ch46, hs59, (inK_wrap .i64 _), f_g33, jnE2 hsf36 hm⟩
    ·
      replace hm := bif_f hm hc47
      refine Wp_exit ?_
      refine Wp_seq ?_
      refine Wp_label ?_
      refine Wp_seq ?_
      refine Wp_seq ?_
      refine Wp_region ?_  -- 8 coalition.go:122
      refine Rg_op rfl (op_loadA (cs := [(Value.int .i64 r_.slots), (Value.slice a_r__owners r_.owners.length c_r__owners), (Value.slice a_r__costs r_.costs.length c_r__costs)]) (vs := [(Value.int .i64 r_.slots), (Value.slice a_r__owners r_.owners.length c_r__owners), (Value.slice a_r__costs r_.costs.length c_r__costs)]) (i := 6) ty25 hs42 rfl rfl rfl rfl ?_)
      refine Rg_op rfl (op_load (cs := [(Value.slice a_g33 v_2.length c_g33)]) (i := 1) ty22 hs42 rfl rfl rfl ?_)
      obtain ⟨hs83, p84, f82⟩ := Gs.publish (i := 0) hs42 rfl f_g33
      replace f_r__owners := f_r__owners.step p84
      replace f_r__costs := f_r__costs.step p84
      replace f_than := f_than.step p84
      replace f_group := f_group.step p84
      replace ch46 := ch46.trans p84
      clear p84 hs42
      replace hm := bd hm; obtain ⟨deviations_1, hv85, hm⟩ := hm
      refine Rg_op rfl (op_call Try.call63 (c63_coalition_deviations (r_ := r_) (flights := v_2) hs83.ltw r_r__slots f_r__owners f_r__costs f82 hv85) rfl ?_)
      rintro v86 w87 ⟨hx88, h89⟩
      have hs90 := hs83.call hx88
      have p91 := Step.ext (O := ks [(some b26, Obj.cells [(Value.slice a_g33 v_2.length c_g33)].toArray 22), (some b21, Obj.cells [(Value.bool false)].toArray 4), (some b16, Obj.cells [(Value.slice none 0 0)].toArray 22), (some b11, Obj.cells [(Value.slice a_group group.length c_group)].toArray 22), (some b6, Obj.cells [(Value.slice a_than than.length c_than)].toArray 22), (some b1, Obj.cells [(Value.int .i64 r_.slots), (Value.slice a_r__owners r_.owners.length c_r__owners), (Value.slice a_r__costs r_.costs.length c_r__costs)].toArray 25)] O) hx88
      clear hx88
      replace f_r__owners := f_r__owners.step p91
      replace f_r__costs := f_r__costs.step p91
      replace f_than := f_than.step p91
      replace f_group := f_group.step p91
      replace f82 := f82.step p91
      replace ch46 := ch46.trans p91
      clear p91 hs83
      have F_y92 : ItR Try.prog (enc1 (vC (rSl (rInt .i64)))) _ _ v86 deviations_1 := h89
      refine Rg_nil ?_
      refine Wp_block ?_
      have hit103 := F_y92; obtain ⟨fk99, cp100, hvq101, hcl102, hit103⟩ := hit103
      replace hm := jn_elim hm; obtain ⟨k95, hk96, hm⟩ := hm
      replace hm := jn_elim hm; obtain ⟨k97, hk98, hm⟩ := hm
      refine Wp_rangeFunc (σ := Bool × (List Int) × (Option Addr) × Nat) (ps := [34]) hs90 (rfl.trans hvq101) hcl102 hit103 rfl enc1_len enc1_step (fun s => match s with | (v_3, v_4, a_y94, c_y94) => [(some b26, Obj.cells [(Value.slice a_g33 v_2.length c_g33)].toArray 22), (some b21, Obj.cells [(Value.bool v_3)].toArray 4), (some b16, Obj.cells [(Value.slice a_y94 v_4.length c_y94)].toArray 22), (some b11, Obj.cells [(Value.slice a_group group.length c_group)].toArray 22), (some b6, Obj.cells [(Value.slice a_than than.length c_than)].toArray 22), (some b1, Obj.cells [(Value.int .i64 r_.slots), (Value.slice a_r__owners r_.owners.length c_r__owners), (Value.slice a_r__costs r_.costs.length c_r__costs)].toArray 25)]) (fun s w O => match s with | (v_3, v_4, a_y94, c_y94) => SlR (rInt .i64) w O a_y94 c_y94 v_4) (fun s w O w' O' p h => by obtain ⟨v_3, v_4, a_y94, c_y94⟩ := s; have h : SlR (rInt .i64) w O a_y94 c_y94 v_4 := h; have f_y94 := h; exact f_y94.step p) (fun s l => match s with | (v_3, v_4, a_y94, c_y94) => rng2 (m40_coalition_blocks_B1 r_ than group v_2 k97) k95 l v_3 v_4 = some x) [none] (fun e s => match e, s with | none, (v_3, v_4, a_y94, c_y94) => k97 v_3 v_4 = some x | _, _ => False) (false, ([] : List Int), none, 0) rfl SlR.nil_ hm ?_ ?_ ?_
      ·
        rintro l104 E105 ⟨v_3, v_4, a_y94, c_y94⟩ xi106 rest107 w108 vs109 z110 hz111 hs112 hst113 f_y94 hm hx114
        replace hs112 : St z110 (E105 ++ O) w108 [(some b26, Obj.cells [(Value.slice a_g33 v_2.length c_g33)].toArray 22), (some b21, Obj.cells [(Value.bool v_3)].toArray 4), (some b16, Obj.cells [(Value.slice a_y94 v_4.length c_y94)].toArray 22), (some b11, Obj.cells [(Value.slice a_group group.length c_group)].toArray 22), (some b6, Obj.cells [(Value.slice a_than than.length c_than)].toArray 22), (some b1, Obj.cells [(Value.int .i64 r_.slots), (Value.slice a_r__owners r_.owners.length c_r__owners), (Value.slice a_r__costs r_.costs.length c_r__costs)].toArray 25)] := hs112
        have ch117 : Step (ks [(some b26, Obj.cells [(Value.slice a_g33 v_2.length c_g33)].toArray 22), (some b21, Obj.cells [(Value.bool false)].toArray 4), (some b16, Obj.cells [(Value.slice none 0 0)].toArray 22), (some b11, Obj.cells [(Value.slice a_group group.length c_group)].toArray 22), (some b6, Obj.cells [(Value.slice a_than than.length c_than)].toArray 22), (some b1, Obj.cells [(Value.int .i64 r_.slots), (Value.slice a_r__owners r_.owners.length c_r__owners), (Value.slice a_r__costs r_.costs.length c_r__costs)].toArray 25)] O) w87 (ks [(some b26, Obj.cells [(Value.slice a_g33 v_2.length c_g33)].toArray 22), (some b21, Obj.cells [(Value.bool v_3)].toArray 4), (some b16, Obj.cells [(Value.slice a_y94 v_4.length c_y94)].toArray 22), (some b11, Obj.cells [(Value.slice a_group group.length c_group)].toArray 22), (some b6, Obj.cells [(Value.slice a_than than.length c_than)].toArray 22), (some b1, Obj.cells [(Value.int .i64 r_.slots), (Value.slice a_r__owners r_.owners.length c_r__owners), (Value.slice a_r__costs r_.costs.length c_r__costs)].toArray 25)] (E105 ++ O)) w108 := hst113; clear hst113
        replace f_y94 : SlR (rInt .i64) w108 (ks [(some b26, Obj.cells [(Value.slice a_g33 v_2.length c_g33)].toArray 22), (some b21, Obj.cells [(Value.bool v_3)].toArray 4), (some b16, Obj.cells [(Value.slice a_y94 v_4.length c_y94)].toArray 22), (some b11, Obj.cells [(Value.slice a_group group.length c_group)].toArray 22), (some b6, Obj.cells [(Value.slice a_than than.length c_than)].toArray 22), (some b1, Obj.cells [(Value.int .i64 r_.slots), (Value.slice a_r__owners r_.owners.length c_r__owners), (Value.slice a_r__costs r_.costs.length c_r__costs)].toArray 25)] (E105 ++ O)) a_y94 c_y94 v_4 := f_y94
        obtain ⟨sf115, hsf116, hm⟩ := rng2_s (show rng2 _ _ (xi106 :: rest107) v_3 v_4 = some _ from hm)
        unfold m40_coalition_blocks_B1 at hm
        replace f_r__owners := f_r__owners.step ch117
        replace f_r__costs := f_r__costs.step ch117
        replace f_than := f_than.step ch117
        replace f_group := f_group.step ch117
        replace f82 := f82.step ch117
        replace F_y92 := F_y92.step ch117
        replace hx114 : (enc1 (vC (rSl (rInt .i64)))) xi106 w108 (ks [(some b26, Obj.cells [(Value.slice a_g33 v_2.length c_g33)].toArray 22), (some b21, Obj.cells [(Value.bool v_3)].toArray 4), (some b16, Obj.cells [(Value.slice a_y94 v_4.length c_y94)].toArray 22), (some b11, Obj.cells [(Value.slice a_group group.length c_group)].toArray 22), (some b6, Obj.cells [(Value.slice a_than than.length c_than)].toArray 22), (some b1, Obj.cells [(Value.int .i64 r_.slots), (Value.slice a_r__owners r_.owners.length c_r__owners), (Value.slice a_r__costs r_.costs.length c_r__costs)].toArray 25)] (E105 ++ O)) vs109 := hx114
        obtain ⟨v118, rfl, h119⟩ := hx114
        obtain ⟨a_y120, c_y120, rfl, f_y120⟩ := un_sl h119
        refine Wp_region ?_  -- 9 coalition.go:122
        refine Rg_op rfl (op_assign (v := (Value.slice a_y120 xi106.length c_y120)) rfl ?_)
        refine Rg_nil ?_
        refine Exists.intro _ (And.intro hs112 ?_)
        intro w121 z122 RQ123 hz124 hs125 p126 hN127 hX128
        replace f_r__owners := f_r__owners.step p126
        replace f_r__costs := f_r__costs.step p126
        replace f_than := f_than.step p126
        replace f_group := f_group.step p126
        replace f82 := f82.step p126
        replace F_y92 := F_y92.step p126
        replace f_y94 := f_y94.step p126
        replace f_y120 := f_y120.step p126
        replace ch117 := ch117.trans p126
        clear p126 hs112
        refine Wp_block ?_
        refine Wp_seq ?_
        refine Wp_region ?_  -- 10 coalition.go:123
        refine Rg_op rfl (op_loadA (cs := [(Value.int .i64 r_.slots), (Value.slice a_r__owners r_.owners.length c_r__owners), (Value.slice a_r__costs r_.costs.length c_r__costs)]) (vs := [(Value.int .i64 r_.slots), (Value.slice a_r__owners r_.owners.length c_r__owners), (Value.slice a_r__costs r_.costs.length c_r__costs)]) (i := 5) ty25 hs125 rfl rfl rfl rfl ?_)
        refine Rg_op rfl (op_load (cs := [(Value.slice a_g33 v_2.length c_g33)]) (i := 0) ty22 hs125 rfl rfl rfl ?_)
        refine Rg_op rfl (op_move (v := (Value.slice a_y120 xi106.length c_y120)) rfl ?_)
        replace hm := bd hm; obtain ⟨costs_1, hv129, hm⟩ := hm
        refine Rg_op rfl (op_call Try.call41 (g41_coalition_costs (r_ := r_) (flights := v_2) (slots := xi106) hs125.ltw r_r__slots f_r__owners f_r__costs f82 f_y120 hv129) rfl ?_)
        rintro _ w131 ⟨hx132, a135, c136, k137, o138, rfl, hk139, f140⟩
        obtain ⟨hs134, p141⟩ := hs125.callG (o := o138) hx132 hk139
        rw [← ks_cons (o := o138)] at f140
        replace f_r__owners := f_r__owners.step p141
        replace f_r__costs := f_r__costs.step p141
        replace f_than := f_than.step p141
        replace f_group := f_group.step p141
        replace f82 := f82.step p141
        replace F_y92 := F_y92.step p141
        replace f_y94 := f_y94.step p141
        replace f_y120 := f_y120.step p141
        replace ch117 := ch117.trans p141
        clear p141 hs125
        refine Rg_op rfl (op_assign (v := (Value.slice a135 costs_1.length c136)) rfl ?_)
        refine Rg_nil ?_
        refine Wp_seq ?_
        refine Wp_seq ?_
        refine Wp_region ?_  -- 11 coalition.go:124
        refine Rg_op rfl (op_load (cs := [(Value.slice a_group group.length c_group)]) (i := 4) ty22 hs134 rfl rfl rfl ?_)
        refine Rg_op rfl (op_len Try.underlying22 rfl ?_)
        refine Rg_op rfl (op_move (v := (Value.int .i64 0)) rfl ?_)
        refine Rg_nil ?_
        refine Wp_block ?_
        refine Wp_reset [] [(3, (Value.pointer (some ⟨b1, 0, none⟩))), (4, (Value.pointer (some ⟨b6, 0, none⟩))), (5, (Value.pointer (some ⟨b11, 0, none⟩))), (6, (Value.pointer (some ⟨b16, 0, none⟩))), (7, (Value.pointer (some ⟨b21, 0, none⟩))), (8, (Value.pointer (some ⟨b26, 0, none⟩))), (11, (Value.slice a_y120 xi106.length c_y120)), (12, (Value.slice a135 costs_1.length c136)), (33, v86), (39, (Value.slice a_group group.length c_group)), (40, (Value.int .i64 (group.length : Int))), (41, (Value.int .i64 0))] rfl ⟨rfl, rfl, rfl, rfl, rfl, rfl, rfl, rfl, rfl, rfl, rfl, rfl, trivial⟩ fun ξ144 => ?_
        refine Wp_loopM [14, 41, 42, 43, 44, 45, 46, 47, 48, 49, 50, 51, 52, 53, 54] (fun m fr w' => ∃ (v_5 : Int) (Ebs : Ents), Ebs = [(k137, o138), (some b26, Obj.cells [(Value.slice a_g33 v_2.length c_g33)].toArray 22), (some b21, Obj.cells [(Value.bool v_3)].toArray 4), (some b16, Obj.cells [(Value.slice a_y94 v_4.length c_y94)].toArray 22), (some b11, Obj.cells [(Value.slice a_group group.length c_group)].toArray 22), (some b6, Obj.cells [(Value.slice a_than than.length c_than)].toArray 22), (some b1, Obj.cells [(Value.int .i64 r_.slots), (Value.slice a_r__owners r_.owners.length c_r__owners), (Value.slice a_r__costs r_.costs.length c_r__costs)].toArray 25)] ∧ fr [] [(41, (Value.int .i64 v_5))] ∧ Step (ks [(k137, o138), (some b26, Obj.cells [(Value.slice a_g33 v_2.length c_g33)].toArray 22), (some b21, Obj.cells [(Value.bool v_3)].toArray 4), (some b16, Obj.cells [(Value.slice a_y94 v_4.length c_y94)].toArray 22), (some b11, Obj.cells [(Value.slice a_group group.length c_group)].toArray 22), (some b6, Obj.cells [(Value.slice a_than than.length c_than)].toArray 22), (some b1, Obj.cells [(Value.int .i64 r_.slots), (Value.slice a_r__owners r_.owners.length c_r__owners), (Value.slice a_r__costs r_.costs.length c_r__costs)].toArray 25)] (E105 ++ O)) w131 (ks Ebs (E105 ++ O)) w' ∧ St z122 (E105 ++ O) w' Ebs ∧ InK .i64 v_5 ∧ loop1 (m40_coalition_blocks_B2 than group k97 v_3 v_4 sf115 xi106 costs_1) m v_5 = some x) (((group.length : Int) - 0).toNat + 1) ⟨0, _, rfl, ⟨Out.refl _ _, rfl, rfl, trivial⟩, Step.refl _ _, hs134, (show InK .i64 0 from by decide), hm⟩ ?_ ?_
        · rintro _ _ ⟨_, _, _, _, _, _, _, hm⟩; exact loop1_z hm
        · rintro m148 K147 hK147 ρ153 w149 ⟨v_5, Ebs, hEbs, hfr152, hst151, hs150, r_y143, hm⟩
          obtain ⟨sf145, hsf146, hm⟩ := loop1_s hm; unfold m40_coalition_blocks_B2 at hm
          subst hEbs; rw [hfr152.eq]; clear hfr152
          replace f_r__owners := f_r__owners.step hst151
          replace f_r__costs := f_r__costs.step hst151
          replace f_than := f_than.step hst151
          replace f_group := f_group.step hst151
          replace f82 := f82.step hst151
          replace F_y92 := F_y92.step hst151
          replace f_y94 := f_y94.step hst151
          replace f_y120 := f_y120.step hst151
          replace f140 := f140.step hst151
          replace ch117 := ch117.trans hst151
          have ch154 := hst151
          refine Wp_seq ?_
          refine Wp_region ?_  -- 12 coalition.go:124
          refine Rg_op rfl (op_lss rfl rfl ?_)
          refine Rg_nil ?_
          refine Wp_seq ?_
          refine Wp_cond rfl (fun hc155 => ?_) (fun hc155 => ?_)
          ·
            replace hm := bif_t hm hc155
            refine Wp_skip ?_
            refine Wp_seq ?_
            refine Wp_block ?_
            refine Wp_seq ?_
            refine Wp_region ?_  -- 13 coalition.go:124
            replace hm := ck_some hm; obtain ⟨hc156, hm⟩ := hm
            refine Rg_op rfl (op_indexAddr (q := (rInt .i64)) ty22 ty3 rfl rfl f_group rfl hc156.1 hc156.2 ?_)
            intro p157 f158
            refine Rg_op rfl (op_loadP ty3 rfl f158 rfl ?_)
            intro v159 h160
            obtain ⟨rfl, r_y161⟩ := un_int h160
            refine Rg_op rfl (op_assign (v := (Value.int .i64 (group.getD v_5.toNat default))) rfl ?_)
            refine Rg_nil ?_
            refine Wp_seq ?_
            clear f158
            refine Wp_drawR (g0 := []) (m := 8) (fl := []) (TS_inv hs150) (.inr rfl) rfl (by decide +kernel) ?_  -- 14
            refine Dw_eq (Value.slice a135 costs_1.length c136) (fun ρ162 w163 g hle hi ht => ?_) ?_
            ·
              obtain ⟨-, hst, -⟩ := hle
              refine StepOp_plain (op_move (v := (Value.slice a135 costs_1.length c136)) (ht 12 rfl) ?_)
              exact Goes.same hi rfl
            refine Dw_eq (Value.int .i64 (group.getD v_5.toNat default)) (fun ρ165 w166 g hle hi ht => ?_) ?_
            ·
              obtain ⟨-, hst, -⟩ := hle
              refine StepOp_plain (op_move (v := (Value.int .i64 (group.getD v_5.toNat default))) (ht 14 rfl) ?_)
              exact Goes.same hi rfl
            replace hm := ck_some hm; obtain ⟨hc171, hm⟩ := hm
            obtain ⟨b172, rfl, rfl⟩ := f140.at_ (by omega)
            refine Dw_eq (Value.pointer (some ⟨b172, (group.getD v_5.toNat default).toNat * 1, none⟩)) (fun ρ168 w169 g hle hi ht => ?_) ?_
            ·
              obtain ⟨-, hst, -⟩ := hle
              replace f140 := f140.step hst
              refine StepOp_plain (op_indexAddrG ty22 ty3 (ht 45 rfl) (ht 46 rfl) f140 hc171 ?_)
              rintro _ ⟨⟩ -
              exact Goes.same hi rfl
            refine Dw_op (VD (E105 ++ O) [(some b172, o138), (some b26, Obj.cells [(Value.slice a_g33 v_2.length c_g33)].toArray 22), (some b21, Obj.cells [(Value.bool v_3)].toArray 4), (some b16, Obj.cells [(Value.slice a_y94 v_4.length c_y94)].toArray 22), (some b11, Obj.cells [(Value.slice a_group group.length c_group)].toArray 22), (some b6, Obj.cells [(Value.slice a_than than.length c_than)].toArray 22), (some b1, Obj.cells [(Value.int .i64 r_.slots), (Value.slice a_r__owners r_.owners.length c_r__owners), (Value.slice a_r__costs r_.costs.length c_r__costs)].toArray 25)] (vI .i64) (costs_1.getD (group.getD v_5.toNat default).toNat default)) (VD.stab _ _) (fun ρ173 w174 g hle hi ht => ?_) ?_
            ·
              obtain ⟨-, hst, -⟩ := hle
              replace f140 := f140.step hst
              have hsn := (Step.nx hi).1
              refine StepOp_plain (op_loadG (i := 0) ty3 rfl hsn rfl (ht 47 rfl) f140 hc171 ?_)
              intro v176 h177
              obtain ⟨rfl, r_y178⟩ := un_int h177
              exact Goes.same hi (show Vr.vd (vI .i64) _ _ _ _ from ⟨rfl, r_y178⟩)
            refine Dw_eq (Value.slice a_than than.length c_than) (fun ρ179 w180 g hle hi ht => ?_) ?_
            ·
              obtain ⟨-, hst, -⟩ := hle
              have hsn := (Step.nx hi).1
              refine StepOp_plain (op_load (cs := [(Value.slice a_than than.length c_than)]) (i := 5) ty22 hsn (ht 4 rfl) rfl rfl ?_)
              exact Goes.same hi rfl
            refine Dw_eq (Value.int .i64 (group.getD v_5.toNat default)) (fun ρ182 w183 g hle hi ht => ?_) ?_
            ·
              obtain ⟨-, hst, -⟩ := hle
              refine StepOp_plain (op_move (v := (Value.int .i64 (group.getD v_5.toNat default))) (ht 14 rfl) ?_)
              exact Goes.same hi rfl
            replace hm := ck_some hm; obtain ⟨hc188, hm⟩ := hm
            refine Dw_op (VP (E105 ++ O) [(some b172, o138), (some b26, Obj.cells [(Value.slice a_g33 v_2.length c_g33)].toArray 22), (some b21, Obj.cells [(Value.bool v_3)].toArray 4), (some b16, Obj.cells [(Value.slice a_y94 v_4.length c_y94)].toArray 22), (some b11, Obj.cells [(Value.slice a_group group.length c_group)].toArray 22), (some b6, Obj.cells [(Value.slice a_than than.length c_than)].toArray 22), (some b1, Obj.cells [(Value.int .i64 r_.slots), (Value.slice a_r__owners r_.owners.length c_r__owners), (Value.slice a_r__costs r_.costs.length c_r__costs)].toArray 25)] (rInt .i64) (than.getD (group.getD v_5.toNat default).toNat default)) (VP.stab _ _) (fun ρ185 w186 g hle hi ht => ?_) ?_
            ·
              obtain ⟨-, hst, -⟩ := hle
              replace f_than := f_than.step hst
              refine StepOp_plain (op_indexAddr (q := (rInt .i64)) ty22 ty3 (ht 49 rfl) (ht 50 rfl) f_than rfl hc188.1 hc188.2 ?_)
              intro p189 f190
              exact Goes.same hi ⟨_, rfl, f190⟩
            refine Dw_op (VD (E105 ++ O) [(some b172, o138), (some b26, Obj.cells [(Value.slice a_g33 v_2.length c_g33)].toArray 22), (some b21, Obj.cells [(Value.bool v_3)].toArray 4), (some b16, Obj.cells [(Value.slice a_y94 v_4.length c_y94)].toArray 22), (some b11, Obj.cells [(Value.slice a_group group.length c_group)].toArray 22), (some b6, Obj.cells [(Value.slice a_than than.length c_than)].toArray 22), (some b1, Obj.cells [(Value.int .i64 r_.slots), (Value.slice a_r__owners r_.owners.length c_r__owners), (Value.slice a_r__costs r_.costs.length c_r__costs)].toArray 25)] (vI .i64) (than.getD (group.getD v_5.toNat default).toNat default)) (VD.stab _ _) (fun ρ191 w192 g hle hi ht => ?_) ?_
            ·
              obtain ⟨-, hst, -⟩ := hle
              obtain ⟨p194, q195, f196⟩ := ht 51 rfl
              refine StepOp_plain (op_loadP ty3 q195 f196 rfl ?_)
              intro v197 h198
              obtain ⟨rfl, r_y199⟩ := un_int h198
              exact Goes.same hi (show Vr.vd (vI .i64) _ _ _ _ from ⟨rfl, r_y199⟩)
            refine Dw_nil fun w204 g205 hl206 hi207 => ?_
            obtain ⟨-, hst208, -⟩ := hl206
            obtain ⟨hs210, p209⟩ := Step.nx hi207
            rintro v211 h212
            replace h212 : Vr.vd (vI .i64) _ _ _ _ := h212
            obtain ⟨rfl, r_y213⟩ := h212
            rintro _ ⟨p214, rfl, f215⟩
            rintro _ rfl
            rintro _ rfl
            rintro v216 h217
            replace h217 : Vr.vd (vI .i64) _ _ _ _ := h217
            obtain ⟨rfl, r_y218⟩ := h217
            rintro _ rfl
            rintro _ rfl
            rintro _ rfl
            have p219 : Step (ks [(some b172, o138), (some b26, Obj.cells [(Value.slice a_g33 v_2.length c_g33)].toArray 22), (some b21, Obj.cells [(Value.bool v_3)].toArray 4), (some b16, Obj.cells [(Value.slice a_y94 v_4.length c_y94)].toArray 22), (some b11, Obj.cells [(Value.slice a_group group.length c_group)].toArray 22), (some b6, Obj.cells [(Value.slice a_than than.length c_than)].toArray 22), (some b1, Obj.cells [(Value.int .i64 r_.slots), (Value.slice a_r__owners r_.owners.length c_r__owners), (Value.slice a_r__costs r_.costs.length c_r__costs)].toArray 25)] (E105 ++ O)) w149 (ks [(some b172, o138), (some b26, Obj.cells [(Value.slice a_g33 v_2.length c_g33)].toArray 22), (some b21, Obj.cells [(Value.bool v_3)].toArray 4), (some b16, Obj.cells [(Value.slice a_y94 v_4.length c_y94)].toArray 22), (some b11, Obj.cells [(Value.slice a_group group.length c_group)].toArray 22), (some b6, Obj.cells [(Value.slice a_than than.length c_than)].toArray 22), (some b1, Obj.cells [(Value.int .i64 r_.slots), (Value.slice a_r__owners r_.owners.length c_r__owners), (Value.slice a_r__costs r_.costs.length c_r__costs)].toArray 25)] (E105 ++ O)) w204 := hst208.trans p209
            replace f215 := f215.step p209
            replace f_r__owners := f_r__owners.step p219
            replace f_r__costs := f_r__costs.step p219
            replace f_than := f_than.step p219
            replace f_group := f_group.step p219
            replace f82 := f82.step p219
            replace F_y92 := F_y92.step p219
            replace f_y94 := f_y94.step p219
            replace f_y120 := f_y120.step p219
            replace f140 := f140.step p219
            replace ch117 := ch117.trans p219
            replace ch154 := ch154.trans p219
            clear p219 hs150
            refine Rg_op rfl (op_geq rfl rfl ?_)
            refine Rg_nil ?_
            refine Wp_cond rfl (fun hc220 => ?_) (fun hc220 => ?_)
            ·
              replace hm := bif_t hm hc220
              refine Wp_exit ?_
              have hs221 := hs210.drop 0
              replace f_r__owners := f_r__owners.step (Step.drop _ _ [(some b172, o138), (some b26, Obj.cells [(Value.slice a_g33 v_2.length c_g33)].toArray 22), (some b21, Obj.cells [(Value.bool v_3)].toArray 4), (some b16, Obj.cells [(Value.slice a_y94 v_4.length c_y94)].toArray 22), (some b11, Obj.cells [(Value.slice a_group group.length c_group)].toArray 22), (some b6, Obj.cells [(Value.slice a_than than.length c_than)].toArray 22), (some b1, Obj.cells [(Value.int .i64 r_.slots), (Value.slice a_r__owners r_.owners.length c_r__owners), (Value.slice a_r__costs r_.costs.length c_r__costs)].toArray 25)] 0)
              replace f_r__costs := f_r__costs.step (Step.drop _ _ [(some b172, o138), (some b26, Obj.cells [(Value.slice a_g33 v_2.length c_g33)].toArray 22), (some b21, Obj.cells [(Value.bool v_3)].toArray 4), (some b16, Obj.cells [(Value.slice a_y94 v_4.length c_y94)].toArray 22), (some b11, Obj.cells [(Value.slice a_group group.length c_group)].toArray 22), (some b6, Obj.cells [(Value.slice a_than than.length c_than)].toArray 22), (some b1, Obj.cells [(Value.int .i64 r_.slots), (Value.slice a_r__owners r_.owners.length c_r__owners), (Value.slice a_r__costs r_.costs.length c_r__costs)].toArray 25)] 0)
              replace f_than := f_than.step (Step.drop _ _ [(some b172, o138), (some b26, Obj.cells [(Value.slice a_g33 v_2.length c_g33)].toArray 22), (some b21, Obj.cells [(Value.bool v_3)].toArray 4), (some b16, Obj.cells [(Value.slice a_y94 v_4.length c_y94)].toArray 22), (some b11, Obj.cells [(Value.slice a_group group.length c_group)].toArray 22), (some b6, Obj.cells [(Value.slice a_than than.length c_than)].toArray 22), (some b1, Obj.cells [(Value.int .i64 r_.slots), (Value.slice a_r__owners r_.owners.length c_r__owners), (Value.slice a_r__costs r_.costs.length c_r__costs)].toArray 25)] 0)
              replace f_group := f_group.step (Step.drop _ _ [(some b172, o138), (some b26, Obj.cells [(Value.slice a_g33 v_2.length c_g33)].toArray 22), (some b21, Obj.cells [(Value.bool v_3)].toArray 4), (some b16, Obj.cells [(Value.slice a_y94 v_4.length c_y94)].toArray 22), (some b11, Obj.cells [(Value.slice a_group group.length c_group)].toArray 22), (some b6, Obj.cells [(Value.slice a_than than.length c_than)].toArray 22), (some b1, Obj.cells [(Value.int .i64 r_.slots), (Value.slice a_r__owners r_.owners.length c_r__owners), (Value.slice a_r__costs r_.costs.length c_r__costs)].toArray 25)] 0)
              replace f82 := f82.step (Step.drop _ _ [(some b172, o138), (some b26, Obj.cells [(Value.slice a_g33 v_2.length c_g33)].toArray 22), (some b21, Obj.cells [(Value.bool v_3)].toArray 4), (some b16, Obj.cells [(Value.slice a_y94 v_4.length c_y94)].toArray 22), (some b11, Obj.cells [(Value.slice a_group group.length c_group)].toArray 22), (some b6, Obj.cells [(Value.slice a_than than.length c_than)].toArray 22), (some b1, Obj.cells [(Value.int .i64 r_.slots), (Value.slice a_r__owners r_.owners.length c_r__owners), (Value.slice a_r__costs r_.costs.length c_r__costs)].toArray 25)] 0)
              replace F_y92 := F_y92.step (Step.drop _ _ [(some b172, o138), (some b26, Obj.cells [(Value.slice a_g33 v_2.length c_g33)].toArray 22), (some b21, Obj.cells [(Value.bool v_3)].toArray 4), (some b16, Obj.cells [(Value.slice a_y94 v_4.length c_y94)].toArray 22), (some b11, Obj.cells [(Value.slice a_group group.length c_group)].toArray 22), (some b6, Obj.cells [(Value.slice a_than than.length c_than)].toArray 22), (some b1, Obj.cells [(Value.int .i64 r_.slots), (Value.slice a_r__owners r_.owners.length c_r__owners), (Value.slice a_r__costs r_.costs.length c_r__costs)].toArray 25)] 0)
              replace f_y94 := f_y94.step (Step.drop _ _ [(some b172, o138), (some b26, Obj.cells [(Value.slice a_g33 v_2.length c_g33)].toArray 22), (some b21, Obj.cells [(Value.bool v_3)].toArray 4), (some b16, Obj.cells [(Value.slice a_y94 v_4.length c_y94)].toArray 22), (some b11, Obj.cells [(Value.slice a_group group.length c_group)].toArray 22), (some b6, Obj.cells [(Value.slice a_than than.length c_than)].toArray 22), (some b1, Obj.cells [(Value.int .i64 r_.slots), (Value.slice a_r__owners r_.owners.length c_r__owners), (Value.slice a_r__costs r_.costs.length c_r__costs)].toArray 25)] 0)
              replace f_y120 := f_y120.step (Step.drop _ _ [(some b172, o138), (some b26, Obj.cells [(Value.slice a_g33 v_2.length c_g33)].toArray 22), (some b21, Obj.cells [(Value.bool v_3)].toArray 4), (some b16, Obj.cells [(Value.slice a_y94 v_4.length c_y94)].toArray 22), (some b11, Obj.cells [(Value.slice a_group group.length c_group)].toArray 22), (some b6, Obj.cells [(Value.slice a_than than.length c_than)].toArray 22), (some b1, Obj.cells [(Value.int .i64 r_.slots), (Value.slice a_r__owners r_.owners.length c_r__owners), (Value.slice a_r__costs r_.costs.length c_r__costs)].toArray 25)] 0)
              replace f140 := f140.step (Step.drop _ _ [(some b172, o138), (some b26, Obj.cells [(Value.slice a_g33 v_2.length c_g33)].toArray 22), (some b21, Obj.cells [(Value.bool v_3)].toArray 4), (some b16, Obj.cells [(Value.slice a_y94 v_4.length c_y94)].toArray 22), (some b11, Obj.cells [(Value.slice a_group group.length c_group)].toArray 22), (some b6, Obj.cells [(Value.slice a_than than.length c_than)].toArray 22), (some b1, Obj.cells [(Value.int .i64 r_.slots), (Value.slice a_r__owners r_.owners.length c_r__owners), (Value.slice a_r__costs r_.costs.length c_r__costs)].toArray 25)] 0)
              replace f215 := f215.step (Step.drop _ _ [(some b172, o138), (some b26, Obj.cells [(Value.slice a_g33 v_2.length c_g33)].toArray 22), (some b21, Obj.cells [(Value.bool v_3)].toArray 4), (some b16, Obj.cells [(Value.slice a_y94 v_4.length c_y94)].toArray 22), (some b11, Obj.cells [(Value.slice a_group group.length c_group)].toArray 22), (some b6, Obj.cells [(Value.slice a_than than.length c_than)].toArray 22), (some b1, Obj.cells [(Value.int .i64 r_.slots), (Value.slice a_r__owners r_.owners.length c_r__owners), (Value.slice a_r__costs r_.costs.length c_r__costs)].toArray 25)] 0)
              replace ch117 := ch117.trans (Step.drop _ _ [(some b172, o138), (some b26, Obj.cells [(Value.slice a_g33 v_2.length c_g33)].toArray 22), (some b21, Obj.cells [(Value.bool v_3)].toArray 4), (some b16, Obj.cells [(Value.slice a_y94 v_4.length c_y94)].toArray 22), (some b11, Obj.cells [(Value.slice a_group group.length c_group)].toArray 22), (some b6, Obj.cells [(Value.slice a_than than.length c_than)].toArray 22), (some b1, Obj.cells [(Value.int .i64 r_.slots), (Value.slice a_r__owners r_.owners.length c_r__owners), (Value.slice a_r__costs r_.costs.length c_r__costs)].toArray 25)] 0)
              replace ch154 := ch154.trans (Step.drop _ _ [(some b172, o138), (some b26, Obj.cells [(Value.slice a_g33 v_2.length c_g33)].toArray 22), (some b21, Obj.cells [(Value.bool v_3)].toArray 4), (some b16, Obj.cells [(Value.slice a_y94 v_4.length c_y94)].toArray 22), (some b11, Obj.cells [(Value.slice a_group group.length c_group)].toArray 22), (some b6, Obj.cells [(Value.slice a_than than.length c_than)].toArray 22), (some b1, Obj.cells [(Value.int .i64 r_.slots), (Value.slice a_r__owners r_.owners.length c_r__owners), (Value.slice a_r__costs r_.costs.length c_r__costs)].toArray 25)] 0)
              clear hs210
              exact hN127 (v_3, v_4, a_y94, c_y94) _ _ hs221 ch117 f_y94 (jnE2 hsf116 hm)
            ·
              replace hm := bif_f hm hc220
              refine Wp_skip ?_
              clear f215
              refine Wp_region ?_  -- 15 coalition.go:124
              refine Rg_op rfl (op_addw rfl rfl ?_)
              refine Rg_op rfl (op_move (v := (Value.int .i64 (IntKind.wrap .i64 (v_5 + 1)))) rfl ?_)
              refine Rg_nil ?_
              exact hK147 _ _ ⟨(IntKind.wrap .i64 (v_5 + 1)), _, rfl, ⟨(by repeat (first | with_reducible exact Out.refl _ _ | refine Out.upd ?_ rfl | refine Out.updL ?_ rfl | refine Out.mix' ?_ rfl | exact Out.refl _ _)), rfl, rfl, trivial⟩, ch154, hs210, (inK_wrap .i64 _), jnE1 hsf146 hm⟩
          ·
            replace hm := bif_f hm hc155
            refine Wp_exit ?_
            refine Wp_seq ?_
            clear F_y92 f140
            refine Wp_region ?_  -- 16 coalition.go:129
            refine Rg_op rfl (op_move (v := (Value.slice a_y120 xi106.length c_y120)) rfl ?_)
            refine Rg_op_ (op_store (cs := [(Value.slice a_y94 v_4.length c_y94)]) (vs := [(Value.slice a_y120 xi106.length c_y120)]) (cs' := [(Value.slice a_y120 xi106.length c_y120)]) (bs' := [(k137, o138), (some b26, Obj.cells [(Value.slice a_g33 v_2.length c_g33)].toArray 22), (some b21, Obj.cells [(Value.bool v_3)].toArray 4), (some b16, Obj.cells [(Value.slice a_y120 xi106.length c_y120)].toArray 22), (some b11, Obj.cells [(Value.slice a_group group.length c_group)].toArray 22), (some b6, Obj.cells [(Value.slice a_than than.length c_than)].toArray 22), (some b1, Obj.cells [(Value.int .i64 r_.slots), (Value.slice a_r__owners r_.owners.length c_r__owners), (Value.slice a_r__costs r_.costs.length c_r__costs)].toArray 25)]) (i := 3) ty22 hs150 rfl rfl rfl rfl rfl (le_lit rfl) rfl rfl rfl ?_)
            intro w222 p223 hs224
            replace f_r__owners := f_r__owners.step p223
            replace f_r__costs := f_r__costs.step p223
            replace f_than := f_than.step p223
            replace f_group := f_group.step p223
            replace f82 := f82.step p223
            replace f_y94 := f_y94.step p223
            replace f_y120 := f_y120.step p223
            replace ch117 := ch117.trans p223
            replace ch154 := ch154.trans p223
            clear p223 hs150
            refine Rg_op_ (op_store (cs := [(Value.bool v_3)]) (vs := [(Value.bool true)]) (cs' := [(Value.bool true)]) (bs' := [(k137, o138), (some b26, Obj.cells [(Value.slice a_g33 v_2.length c_g33)].toArray 22), (some b21, Obj.cells [(Value.bool true)].toArray 4), (some b16, Obj.cells [(Value.slice a_y120 xi106.length c_y120)].toArray 22), (some b11, Obj.cells [(Value.slice a_group group.length c_group)].toArray 22), (some b6, Obj.cells [(Value.slice a_than than.length c_than)].toArray 22), (some b1, Obj.cells [(Value.int .i64 r_.slots), (Value.slice a_r__owners r_.owners.length c_r__owners), (Value.slice a_r__costs r_.costs.length c_r__costs)].toArray 25)]) (i := 2) ty4 hs224 rfl rfl rfl rfl rfl (le_lit rfl) rfl rfl rfl ?_)
            intro w225 p226 hs227
            replace f_r__owners := f_r__owners.step p226
            replace f_r__costs := f_r__costs.step p226
            replace f_than := f_than.step p226
            replace f_group := f_group.step p226
            replace f82 := f82.step p226
            replace f_y94 := f_y94.step p226
            replace f_y120 := f_y120.step p226
            replace ch117 := ch117.trans p226
            replace ch154 := ch154.trans p226
            clear p226 hs224
            refine Rg_nil ?_
            refine Wp_ret ?_
            have hs228 := hs227.drop 0
            replace f_r__owners := f_r__owners.step (Step.drop _ _ [(k137, o138), (some b26, Obj.cells [(Value.slice a_g33 v_2.length c_g33)].toArray 22), (some b21, Obj.cells [(Value.bool true)].toArray 4), (some b16, Obj.cells [(Value.slice a_y120 xi106.length c_y120)].toArray 22), (some b11, Obj.cells [(Value.slice a_group group.length c_group)].toArray 22), (some b6, Obj.cells [(Value.slice a_than than.length c_than)].toArray 22), (some b1, Obj.cells [(Value.int .i64 r_.slots), (Value.slice a_r__owners r_.owners.length c_r__owners), (Value.slice a_r__costs r_.costs.length c_r__costs)].toArray 25)] 0)
            replace f_r__costs := f_r__costs.step (Step.drop _ _ [(k137, o138), (some b26, Obj.cells [(Value.slice a_g33 v_2.length c_g33)].toArray 22), (some b21, Obj.cells [(Value.bool true)].toArray 4), (some b16, Obj.cells [(Value.slice a_y120 xi106.length c_y120)].toArray 22), (some b11, Obj.cells [(Value.slice a_group group.length c_group)].toArray 22), (some b6, Obj.cells [(Value.slice a_than than.length c_than)].toArray 22), (some b1, Obj.cells [(Value.int .i64 r_.slots), (Value.slice a_r__owners r_.owners.length c_r__owners), (Value.slice a_r__costs r_.costs.length c_r__costs)].toArray 25)] 0)
            replace f_than := f_than.step (Step.drop _ _ [(k137, o138), (some b26, Obj.cells [(Value.slice a_g33 v_2.length c_g33)].toArray 22), (some b21, Obj.cells [(Value.bool true)].toArray 4), (some b16, Obj.cells [(Value.slice a_y120 xi106.length c_y120)].toArray 22), (some b11, Obj.cells [(Value.slice a_group group.length c_group)].toArray 22), (some b6, Obj.cells [(Value.slice a_than than.length c_than)].toArray 22), (some b1, Obj.cells [(Value.int .i64 r_.slots), (Value.slice a_r__owners r_.owners.length c_r__owners), (Value.slice a_r__costs r_.costs.length c_r__costs)].toArray 25)] 0)
            replace f_group := f_group.step (Step.drop _ _ [(k137, o138), (some b26, Obj.cells [(Value.slice a_g33 v_2.length c_g33)].toArray 22), (some b21, Obj.cells [(Value.bool true)].toArray 4), (some b16, Obj.cells [(Value.slice a_y120 xi106.length c_y120)].toArray 22), (some b11, Obj.cells [(Value.slice a_group group.length c_group)].toArray 22), (some b6, Obj.cells [(Value.slice a_than than.length c_than)].toArray 22), (some b1, Obj.cells [(Value.int .i64 r_.slots), (Value.slice a_r__owners r_.owners.length c_r__owners), (Value.slice a_r__costs r_.costs.length c_r__costs)].toArray 25)] 0)
            replace f82 := f82.step (Step.drop _ _ [(k137, o138), (some b26, Obj.cells [(Value.slice a_g33 v_2.length c_g33)].toArray 22), (some b21, Obj.cells [(Value.bool true)].toArray 4), (some b16, Obj.cells [(Value.slice a_y120 xi106.length c_y120)].toArray 22), (some b11, Obj.cells [(Value.slice a_group group.length c_group)].toArray 22), (some b6, Obj.cells [(Value.slice a_than than.length c_than)].toArray 22), (some b1, Obj.cells [(Value.int .i64 r_.slots), (Value.slice a_r__owners r_.owners.length c_r__owners), (Value.slice a_r__costs r_.costs.length c_r__costs)].toArray 25)] 0)
            replace f_y94 := f_y94.step (Step.drop _ _ [(k137, o138), (some b26, Obj.cells [(Value.slice a_g33 v_2.length c_g33)].toArray 22), (some b21, Obj.cells [(Value.bool true)].toArray 4), (some b16, Obj.cells [(Value.slice a_y120 xi106.length c_y120)].toArray 22), (some b11, Obj.cells [(Value.slice a_group group.length c_group)].toArray 22), (some b6, Obj.cells [(Value.slice a_than than.length c_than)].toArray 22), (some b1, Obj.cells [(Value.int .i64 r_.slots), (Value.slice a_r__owners r_.owners.length c_r__owners), (Value.slice a_r__costs r_.costs.length c_r__costs)].toArray 25)] 0)
            replace f_y120 := f_y120.step (Step.drop _ _ [(k137, o138), (some b26, Obj.cells [(Value.slice a_g33 v_2.length c_g33)].toArray 22), (some b21, Obj.cells [(Value.bool true)].toArray 4), (some b16, Obj.cells [(Value.slice a_y120 xi106.length c_y120)].toArray 22), (some b11, Obj.cells [(Value.slice a_group group.length c_group)].toArray 22), (some b6, Obj.cells [(Value.slice a_than than.length c_than)].toArray 22), (some b1, Obj.cells [(Value.int .i64 r_.slots), (Value.slice a_r__owners r_.owners.length c_r__owners), (Value.slice a_r__costs r_.costs.length c_r__costs)].toArray 25)] 0)
            replace ch117 := ch117.trans (Step.drop _ _ [(k137, o138), (some b26, Obj.cells [(Value.slice a_g33 v_2.length c_g33)].toArray 22), (some b21, Obj.cells [(Value.bool true)].toArray 4), (some b16, Obj.cells [(Value.slice a_y120 xi106.length c_y120)].toArray 22), (some b11, Obj.cells [(Value.slice a_group group.length c_group)].toArray 22), (some b6, Obj.cells [(Value.slice a_than than.length c_than)].toArray 22), (some b1, Obj.cells [(Value.int .i64 r_.slots), (Value.slice a_r__owners r_.owners.length c_r__owners), (Value.slice a_r__costs r_.costs.length c_r__costs)].toArray 25)] 0)
            replace ch154 := ch154.trans (Step.drop _ _ [(k137, o138), (some b26, Obj.cells [(Value.slice a_g33 v_2.length c_g33)].toArray 22), (some b21, Obj.cells [(Value.bool true)].toArray 4), (some b16, Obj.cells [(Value.slice a_y120 xi106.length c_y120)].toArray 22), (some b11, Obj.cells [(Value.slice a_group group.length c_group)].toArray 22), (some b6, Obj.cells [(Value.slice a_than than.length c_than)].toArray 22), (some b1, Obj.cells [(Value.int .i64 r_.slots), (Value.slice a_r__owners r_.owners.length c_r__owners), (Value.slice a_r__costs r_.costs.length c_r__costs)].toArray 25)] 0)
            clear hs227
            exact hX128 none (true, xi106, a_y120, c_y120) _ _ (by simp) hs228 ch117 f_y120 hm
      ·
        rintro D229 ⟨v_3, v_4, a_y94, c_y94⟩ w230 hs231 hst232 f_y94 hm
        replace hs231 : St ⟨w, [], (D229 :: [])⟩ (D229 :: O) w230 [(some b26, Obj.cells [(Value.slice a_g33 v_2.length c_g33)].toArray 22), (some b21, Obj.cells [(Value.bool v_3)].toArray 4), (some b16, Obj.cells [(Value.slice a_y94 v_4.length c_y94)].toArray 22), (some b11, Obj.cells [(Value.slice a_group group.length c_group)].toArray 22), (some b6, Obj.cells [(Value.slice a_than than.length c_than)].toArray 22), (some b1, Obj.cells [(Value.int .i64 r_.slots), (Value.slice a_r__owners r_.owners.length c_r__owners), (Value.slice a_r__costs r_.costs.length c_r__costs)].toArray 25)] := hs231
        replace hst232 : Step (ks [(some b26, Obj.cells [(Value.slice a_g33 v_2.length c_g33)].toArray 22), (some b21, Obj.cells [(Value.bool false)].toArray 4), (some b16, Obj.cells [(Value.slice none 0 0)].toArray 22), (some b11, Obj.cells [(Value.slice a_group group.length c_group)].toArray 22), (some b6, Obj.cells [(Value.slice a_than than.length c_than)].toArray 22), (some b1, Obj.cells [(Value.int .i64 r_.slots), (Value.slice a_r__owners r_.owners.length c_r__owners), (Value.slice a_r__costs r_.costs.length c_r__costs)].toArray 25)] O) w87 (ks [(some b26, Obj.cells [(Value.slice a_g33 v_2.length c_g33)].toArray 22), (some b21, Obj.cells [(Value.bool v_3)].toArray 4), (some b16, Obj.cells [(Value.slice a_y94 v_4.length c_y94)].toArray 22), (some b11, Obj.cells [(Value.slice a_group group.length c_group)].toArray 22), (some b6, Obj.cells [(Value.slice a_than than.length c_than)].toArray 22), (some b1, Obj.cells [(Value.int .i64 r_.slots), (Value.slice a_r__owners r_.owners.length c_r__owners), (Value.slice a_r__costs r_.costs.length c_r__costs)].toArray 25)] (D229 :: O)) w230 := hst232
        replace f_y94 : SlR (rInt .i64) w230 (ks [(some b26, Obj.cells [(Value.slice a_g33 v_2.length c_g33)].toArray 22), (some b21, Obj.cells [(Value.bool v_3)].toArray 4), (some b16, Obj.cells [(Value.slice a_y94 v_4.length c_y94)].toArray 22), (some b11, Obj.cells [(Value.slice a_group group.length c_group)].toArray 22), (some b6, Obj.cells [(Value.slice a_than than.length c_than)].toArray 22), (some b1, Obj.cells [(Value.int .i64 r_.slots), (Value.slice a_r__owners r_.owners.length c_r__owners), (Value.slice a_r__costs r_.costs.length c_r__costs)].toArray 25)] (D229 :: O)) a_y94 c_y94 v_4 := f_y94
        replace hm := rng2_z (show rng2 _ _ [] v_3 v_4 = some _ from hm)
        replace hm := jnE2 hk96 (show k95 v_3 v_4 = some _ from hm)
        replace f_r__owners := f_r__owners.step hst232
        replace f_r__costs := f_r__costs.step hst232
        replace f_than := f_than.step hst232
        replace f_group := f_group.step hst232
        replace f82 := f82.step hst232
        replace F_y92 := F_y92.step hst232
        replace ch46 := ch46.trans hst232
        clear hst232 hs90
        refine Wp_seq ?_
        obtain ⟨hs234, p235⟩ := hs231.sub (bs' := [(some b21, Obj.cells [(Value.bool v_3)].toArray 4), (some b16, Obj.cells [(Value.slice a_y94 v_4.length c_y94)].toArray 22)]) (.cons _ (.cons_cons _ (.cons_cons _ (.cons _ (.cons _ (.cons _ List.Sublist.slnil))))))
        clear f_r__owners f_r__costs f_than f_group f82 F_y92
        replace f_y94 := f_y94.step p235
        replace ch46 := ch46.trans p235
        clear p235 hs231
        refine Wp_region ?_  -- 17 coalition.go:131
        refine Rg_op_ (op_store (cs := [(Value.slice a_y94 v_4.length c_y94)]) (vs := [(Value.slice none 0 0)]) (cs' := [(Value.slice none 0 0)]) (bs' := [(some b21, Obj.cells [(Value.bool v_3)].toArray 4), (some b16, Obj.cells [(Value.slice none 0 0)].toArray 22)]) (i := 1) ty22 hs234 rfl rfl rfl rfl rfl (le_lit rfl) rfl rfl rfl ?_)
        intro w236 p237 hs238
        replace f_y94 := f_y94.step p237
        replace ch46 := ch46.trans p237
        clear p237 hs234
        refine Rg_op_ (op_store (cs := [(Value.bool v_3)]) (vs := [(Value.bool false)]) (cs' := [(Value.bool false)]) (bs' := [(some b21, Obj.cells [(Value.bool false)].toArray 4), (some b16, Obj.cells [(Value.slice none 0 0)].toArray 22)]) (i := 0) ty4 hs238 rfl rfl rfl rfl rfl (le_lit rfl) rfl rfl rfl ?_)
        intro w239 p240 hs241
        replace f_y94 := f_y94.step p240
        replace ch46 := ch46.trans p240
        clear p240 hs238
        refine Rg_nil ?_
        refine Wp_ret ?_
        obtain ⟨w242, hcl243, hs244, p245⟩ := St.close hs241
        replace f_y94 := f_y94.step p245
        replace ch46 := ch46.trans p245
        clear p245 hs241
        have hz := (step_all hs244).trans (Step.sub (O' := O) (fun k hk => by simp [hk]))
        replace f_y94 := f_y94.step hz
        refine ⟨_, hcl243, [(Value.slice none 0 0), (Value.bool false)], ⟨res1 (cs := [(Value.slice none 0 0)]) ty22 (i := 1) hs244 rfl rfl rfl, res1 (cs := [(Value.bool false)]) ty4 (i := 0) hs244 rfl rfl rfl, trivial⟩, hs244.ext, ?_⟩
        exact Vr.eq (a := (vT2 (vC (rSl (rInt .i64))) vB)) (x := (([] : List Int), false)) (mkT2 (mkC (mk_sl SlR.nil_)) rfl) (Option.some.inj hm)
      ·
        rintro e251 D246 ⟨v_3, v_4, a_y94, c_y94⟩ w247 he250 hs248 hst249 f_y94 hm
        simp only [List.mem_cons, List.not_mem_nil, or_false] at he250
        subst he250
        replace hs248 : St ⟨w, [], (D246 :: [])⟩ (D246 :: O) w247 [(some b26, Obj.cells [(Value.slice a_g33 v_2.length c_g33)].toArray 22), (some b21, Obj.cells [(Value.bool v_3)].toArray 4), (some b16, Obj.cells [(Value.slice a_y94 v_4.length c_y94)].toArray 22), (some b11, Obj.cells [(Value.slice a_group group.length c_group)].toArray 22), (some b6, Obj.cells [(Value.slice a_than than.length c_than)].toArray 22), (some b1, Obj.cells [(Value.int .i64 r_.slots), (Value.slice a_r__owners r_.owners.length c_r__owners), (Value.slice a_r__costs r_.costs.length c_r__costs)].toArray 25)] := hs248
        replace hst249 : Step (ks [(some b26, Obj.cells [(Value.slice a_g33 v_2.length c_g33)].toArray 22), (some b21, Obj.cells [(Value.bool false)].toArray 4), (some b16, Obj.cells [(Value.slice none 0 0)].toArray 22), (some b11, Obj.cells [(Value.slice a_group group.length c_group)].toArray 22), (some b6, Obj.cells [(Value.slice a_than than.length c_than)].toArray 22), (some b1, Obj.cells [(Value.int .i64 r_.slots), (Value.slice a_r__owners r_.owners.length c_r__owners), (Value.slice a_r__costs r_.costs.length c_r__costs)].toArray 25)] O) w87 (ks [(some b26, Obj.cells [(Value.slice a_g33 v_2.length c_g33)].toArray 22), (some b21, Obj.cells [(Value.bool v_3)].toArray 4), (some b16, Obj.cells [(Value.slice a_y94 v_4.length c_y94)].toArray 22), (some b11, Obj.cells [(Value.slice a_group group.length c_group)].toArray 22), (some b6, Obj.cells [(Value.slice a_than than.length c_than)].toArray 22), (some b1, Obj.cells [(Value.int .i64 r_.slots), (Value.slice a_r__owners r_.owners.length c_r__owners), (Value.slice a_r__costs r_.costs.length c_r__costs)].toArray 25)] (D246 :: O)) w247 := hst249
        replace f_y94 : SlR (rInt .i64) w247 (ks [(some b26, Obj.cells [(Value.slice a_g33 v_2.length c_g33)].toArray 22), (some b21, Obj.cells [(Value.bool v_3)].toArray 4), (some b16, Obj.cells [(Value.slice a_y94 v_4.length c_y94)].toArray 22), (some b11, Obj.cells [(Value.slice a_group group.length c_group)].toArray 22), (some b6, Obj.cells [(Value.slice a_than than.length c_than)].toArray 22), (some b1, Obj.cells [(Value.int .i64 r_.slots), (Value.slice a_r__owners r_.owners.length c_r__owners), (Value.slice a_r__costs r_.costs.length c_r__costs)].toArray 25)] (D246 :: O)) a_y94 c_y94 v_4 := f_y94
        replace hm := jnE2 hk98 (show k97 v_3 v_4 = some _ from hm)
        replace f_r__owners := f_r__owners.step hst249
        replace f_r__costs := f_r__costs.step hst249
        replace f_than := f_than.step hst249
        replace f_group := f_group.step hst249
        replace f82 := f82.step hst249
        replace F_y92 := F_y92.step hst249
        replace ch46 := ch46.trans hst249
        clear hst249 hs90
        obtain ⟨w252, hcl253, hs254, p255⟩ := St.close hs248
        replace f_r__owners := f_r__owners.step p255
        replace f_r__costs := f_r__costs.step p255
        replace f_than := f_than.step p255
        replace f_group := f_group.step p255
        replace f82 := f82.step p255
        replace F_y92 := F_y92.step p255
        replace f_y94 := f_y94.step p255
        replace ch46 := ch46.trans p255
        clear p255 hs248
        have hz := (step_all hs254).trans (Step.sub (O' := O) (fun k hk => by simp [hk]))
        replace f_r__owners := f_r__owners.step hz
        replace f_r__costs := f_r__costs.step hz
        replace f_than := f_than.step hz
        replace f_group := f_group.step hz
        replace f82 := f82.step hz
        replace F_y92 := F_y92.step hz
        replace f_y94 := f_y94.step hz
        refine ⟨_, hcl253, [(Value.slice a_y94 v_4.length c_y94), (Value.bool v_3)], ⟨res1 (cs := [(Value.slice a_y94 v_4.length c_y94)]) ty22 (i := 2) hs254 rfl rfl rfl, res1 (cs := [(Value.bool v_3)]) ty4 (i := 1) hs254 rfl rfl rfl, trivial⟩, hs254.ext, ?_⟩
        exact Vr.eq (a := (vT2 (vC (rSl (rInt .i64))) vB)) (x := (v_4, v_3)) (mkT2 (mkC (mk_sl f_y94)) rfl) (Option.some.inj hm)

end Go.Fx


set_option linter.unusedVariables false
set_option linter.unusedSimpArgs false
set_option maxRecDepth 100000
set_option maxHeartbeats 0
namespace Go.Fx
open Go Go.RowKit Go.Proofs
def m42_coalition_own_B0 (r_ : XRound) (sf10 : (List Int) → Int → Option (List Int)) (l_1 : List Int) (v_1 : Int) : Option (List Int) :=
  bif (decide (v_1 < (r_.owners.length : Int))) then
    ck ((l_1.length + [v_1].length) * 8 ≤ 140737488355328) <|
    sf10 (l_1 ++ [v_1]) (IntKind.wrap .i64 (v_1 + 1))
  else
    some l_1

def m42_coalition_own (r_ : XRound) : Option (List Int) :=
  loop2 (m42_coalition_own_B0 r_) (((r_.owners.length : Int) - 0).toNat + 1) ([] : List Int) 0

theorem g42_coalition_own {w : World} {O : List Nat} {r_ : XRound} {a_r__owners : Option Addr} {c_r__owners : Nat} {a_r__costs : Option Addr} {c_r__costs : Nat} (hO : ∀ k ∈ O, k < w.heap.size) (r_r__slots : InK .i64 r_.slots) (f_r__owners : SlR (rInt .i64) w O a_r__owners c_r__owners r_.owners) (f_r__costs : SlR (rSl (rInt .i64)) w O a_r__costs c_r__costs r_.costs) {x : (List Int)} (hm : m42_coalition_own r_ = some x) :
    OkG Try.prog 42 [(Value.agg [(Value.int .i64 r_.slots), (Value.slice a_r__owners r_.owners.length c_r__owners), (Value.slice a_r__costs r_.costs.length c_r__costs)].toArray)] w O (rInt .i64) 3 x := by
  unfold m42_coalition_own at hm
  refine Fn_of_Wp (n := 16) (xs := [.tmp 2]) Try.func42 rfl Try.ntmps42 Try.results42 rfl ?_
  have hs := St.start hO
  refine Wp_seq ?_
  refine Wp_region ?_  -- 0 coalition.go:64
  refine Rg_op rfl (op_box (cs := [(Value.int .i64 r_.slots), (Value.slice a_r__owners r_.owners.length c_r__owners), (Value.slice a_r__costs r_.costs.length c_r__costs)]) hs rfl rfl ?_)
  intro b1 w2 _ p3 hs4
  replace f_r__owners := f_r__owners.step p3
  replace f_r__costs := f_r__costs.step p3
  clear p3
  refine Rg_op rfl (op_assign (v := (Value.slice none 0 0)) rfl ?_)
  refine Rg_nil ?_
  refine Wp_seq ?_
  refine Wp_seq ?_
  refine Wp_region ?_  -- 1 coalition.go:65
  refine Rg_op rfl (op_fieldAddr ty25 rfl ty22 (by decide) rfl (rfl : _ = (⟨_, 1, none⟩ : Addr)) ?_)
  refine Rg_op rfl (op_load (cs := [(Value.int .i64 r_.slots), (Value.slice a_r__owners r_.owners.length c_r__owners), (Value.slice a_r__costs r_.costs.length c_r__costs)]) (i := 0) ty22 hs4 rfl rfl rfl ?_)
  refine Rg_op rfl (op_len Try.underlying22 rfl ?_)
  refine Rg_op rfl (op_move (v := (Value.int .i64 0)) rfl ?_)
  refine Rg_nil ?_
  refine Wp_block ?_
  refine Wp_reset [] [(2, (Value.slice none 0 0)), (6, (Value.int .i64 (r_.owners.length : Int))), (7, (Value.int .i64 0))] rfl ⟨rfl, rfl, rfl, trivial⟩ fun ξ9 => ?_
  have hs14 := hs4.ghost (Obj.cells #[] 3)
  refine Wp_loopM [2, 3, 7, 8, 9, 10, 11, 12, 13, 14] (fun m fr w' => ∃ (l_1 : List Int) (v_1 : Int) (a_g7 : Option Addr) (c_g7 : Nat) (k_g7 : Option Nat) (o_g7 : Obj) (Ebs : Ents), Ebs = [(k_g7, o_g7), (some b1, Obj.cells [(Value.int .i64 r_.slots), (Value.slice a_r__owners r_.owners.length c_r__owners), (Value.slice a_r__costs r_.costs.length c_r__costs)].toArray 25)] ∧ fr [] [(2, (Value.slice a_g7 l_1.length c_g7)), (7, (Value.int .i64 v_1))] ∧ Step (ks [(none, (Obj.cells #[] 3)), (some b1, Obj.cells [(Value.int .i64 r_.slots), (Value.slice a_r__owners r_.owners.length c_r__owners), (Value.slice a_r__costs r_.costs.length c_r__costs)].toArray 25)] O) w2 (ks Ebs O) w' ∧ St ⟨w, [], []⟩ O w' Ebs ∧ Gs (rInt .i64) 3 w' (ks Ebs O) a_g7 c_g7 l_1 k_g7 o_g7 ∧ InK .i64 v_1 ∧ loop2 (m42_coalition_own_B0 r_) m l_1 v_1 = some x) (((r_.owners.length : Int) - 0).toNat + 1) ⟨([] : List Int), 0, none, 0, none, (Obj.cells #[] 3), _, rfl, ⟨Out.refl _ _, rfl, rfl, rfl, trivial⟩, Step.refl _ _, hs14, Gs.nil_, (show InK .i64 0 from by decide), hm⟩ ?_ ?_
  · rintro _ _ ⟨_, _, _, _, _, _, _, _, _, _, _, _, _, hm⟩; exact loop2_z hm
  · rintro m13 K12 hK12 ρ20 w16 ⟨l_1, v_1, a_g7, c_g7, k_g7, o_g7, Ebs, hEbs, hfr19, hst18, hs17, f_g7, r_y8, hm⟩
    obtain ⟨sf10, hsf11, hm⟩ := loop2_s hm; unfold m42_coalition_own_B0 at hm
    subst hEbs; rw [hfr19.eq]; clear hfr19
    replace f_r__owners := f_r__owners.step hst18
    replace f_r__costs := f_r__costs.step hst18
    have ch21 := hst18
    refine Wp_seq ?_
    refine Wp_region ?_  -- 2 coalition.go:65
    refine Rg_op rfl (op_lss rfl rfl ?_)
    refine Rg_nil ?_
    refine Wp_seq ?_
    refine Wp_cond rfl (fun hc22 => ?_) (fun hc22 => ?_)
    ·
      replace hm := bif_t hm hc22
      refine Wp_skip ?_
      refine Wp_seq ?_
      refine Wp_block ?_
      refine Wp_seq ?_
      refine Wp_region ?_  -- 3 coalition.go:65
      refine Rg_op rfl (op_move (v := (Value.int .i64 v_1)) rfl ?_)
      refine Rg_op rfl (op_assign (v := (Value.int .i64 v_1)) rfl ?_)
      refine Rg_nil ?_
      refine Wp_region ?_  -- 4 coalition.go:66
      refine Rg_op rfl (op_move (v := (Value.slice a_g7 l_1.length c_g7)) rfl ?_)
      refine Rg_op rfl (op_move (v := (Value.int .i64 v_1)) rfl ?_)
      refine Rg_op rfl (op_buildSlice (cs := [(Value.int .i64 v_1)]) (parts := [(0, .tmp 11)]) ty22 ty3 hs17 (by decide) rfl ?_)
      intro b23 w24 hx27 p25 hs26
      replace f_r__owners := f_r__owners.step p25
      replace f_r__costs := f_r__costs.step p25
      replace f_g7 := f_g7.step p25
      replace ch21 := ch21.trans p25
      clear p25 hs17
      replace hm := ck_some hm; obtain ⟨hc29, hm⟩ := hm
      refine Rg_op rfl (op_append (q := (rInt .i64)) (i := 1) (xs := l_1) (ys := [v_1]) (news := [(Value.int .i64 v_1)]) ty22 ty3 rfl (by decide) hs26 rfl rfl f_g7 rfl (Src.owned' (len := 1) (hs26.get (i := 0) rfl) rfl) (show Els (rInt .i64) _ _ [(Value.int .i64 v_1)] [v_1] from ⟨_, _, rfl, (mk_int r_y8), Els.nil⟩) hc29 (by have := hc29; simp only [maxLen]; omega) ?_)
      intro a33 c34 k35 o36 w30 p31 hs32 f37
      replace f_r__owners := f_r__owners.step p31
      replace f_r__costs := f_r__costs.step p31
      replace ch21 := ch21.trans p31
      clear p31 hs26
      have hs38 := hs32.drop 0
      replace f_r__owners := f_r__owners.step (Step.drop _ _ [(some b23, Obj.cells [(Value.int .i64 v_1)].toArray 3), (k35, o36), (some b1, Obj.cells [(Value.int .i64 r_.slots), (Value.slice a_r__owners r_.owners.length c_r__owners), (Value.slice a_r__costs r_.costs.length c_r__costs)].toArray 25)] 0)
      replace f_r__costs := f_r__costs.step (Step.drop _ _ [(some b23, Obj.cells [(Value.int .i64 v_1)].toArray 3), (k35, o36), (some b1, Obj.cells [(Value.int .i64 r_.slots), (Value.slice a_r__owners r_.owners.length c_r__owners), (Value.slice a_r__costs r_.costs.length c_r__costs)].toArray 25)] 0)
      replace f37 := f37.step (Step.drop _ _ [(some b23, Obj.cells [(Value.int .i64 v_1)].toArray 3), (k35, o36), (some b1, Obj.cells [(Value.int .i64 r_.slots), (Value.slice a_r__owners r_.owners.length c_r__owners), (Value.slice a_r__costs r_.costs.length c_r__costs)].toArray 25)] 0)
      replace ch21 := ch21.trans (Step.drop _ _ [(some b23, Obj.cells [(Value.int .i64 v_1)].toArray 3), (k35, o36), (some b1, Obj.cells [(Value.int .i64 r_.slots), (Value.slice a_r__owners r_.owners.length c_r__owners), (Value.slice a_r__costs r_.costs.length c_r__costs)].toArray 25)] 0)
      clear hs32
      refine Rg_op rfl (op_assign (v := (Value.slice a33 (l_1 ++ [v_1]).length c34)) rfl ?_)
      refine Rg_nil ?_
      refine Wp_region ?_  -- 5 coalition.go:65
      refine Rg_op rfl (op_addw rfl rfl ?_)
      refine Rg_op rfl (op_move (v := (Value.int .i64 (IntKind.wrap .i64 (v_1 + 1)))) rfl ?_)
      refine Rg_nil ?_
      exact hK12 _ _ ⟨(l_1 ++ [v_1]), (IntKind.wrap .i64 (v_1 + 1)), a33, c34, k35, o36, _, rfl, ⟨(by repeat (first | with_reducible exact Out.refl _ _ | refine Out.upd ?_ rfl | refine Out.updL ?_ rfl | refine Out.mix' ?_ rfl | exact Out.refl _ _)), rfl, rfl, rfl, trivial⟩, ch21, hs38, f37, (inK_wrap .i64 _), jnE2 hsf11 hm⟩
    ·
      replace hm := bif_f hm hc22
      refine Wp_exit ?_
      refine Wp_seq ?_
      obtain ⟨hs39, p40⟩ := hs17.sub (bs' := [(k_g7, o_g7)]) (.cons_cons _ (.cons _ List.Sublist.slnil))
      clear f_r__owners f_r__costs
      replace f_g7 := f_g7.step p40
      replace ch21 := ch21.trans p40
      clear p40 hs17
      refine Wp_region ?_  -- 6 coalition.go:68
      refine Rg_op rfl (op_move (v := (Value.slice a_g7 l_1.length c_g7)) rfl ?_)
      refine Rg_op rfl (op_assign (v := (Value.slice a_g7 l_1.length c_g7)) rfl ?_)
      refine Rg_nil ?_
      refine Wp_ret ?_
      refine ⟨_, (show Closes [] _ _ from rfl), [(Value.slice a_g7 l_1.length c_g7)], ⟨rfl, trivial⟩, hs39.ext, ?_⟩
      exact OkG.mk (i := 0) hs39 rfl f_g7 (Option.some.inj hm)
theorem c42_coalition_own {w : World} {O : List Nat} {r_ : XRound} {a_r__owners : Option Addr} {c_r__owners : Nat} {a_r__costs : Option Addr} {c_r__costs : Nat} (hO : ∀ k ∈ O, k < w.heap.size) (r_r__slots : InK .i64 r_.slots) (f_r__owners : SlR (rInt .i64) w O a_r__owners c_r__owners r_.owners) (f_r__costs : SlR (rSl (rInt .i64)) w O a_r__costs c_r__costs r_.costs) {x : (List Int)} (hm : m42_coalition_own r_ = some x) :
    Ok Try.prog 42 [(Value.agg [(Value.int .i64 r_.slots), (Value.slice a_r__owners r_.owners.length c_r__owners), (Value.slice a_r__costs r_.costs.length c_r__costs)].toArray)] w O (vC (rSl (rInt .i64))) x :=
  (g42_coalition_own hO r_r__slots f_r__owners f_r__costs hm).ok hO

end Go.Fx


set_option linter.unusedVariables false
set_option linter.unusedSimpArgs false
set_option maxRecDepth 100000
set_option maxHeartbeats 0
namespace Go.Fx
open Go Go.RowKit Go.Proofs
def m17_coalition_Blocks_B0 (r_ : XRound) (slots : List Int) (group : List Int) (sf19 : Int → Option ((List Int) × Bool × Int)) (v_1 : Int) : Option ((List Int) × Bool × Int) :=
  bif (decide (v_1 < (group.length : Int))) then
    ck ((0 : Int) ≤ v_1 ∧ v_1 < (group.length : Int)) <|
    jn (fun (v_2 : Bool) =>
      bif v_2 then
        some (([] : List Int), false, 1)
      else
        sf19 (IntKind.wrap .i64 (v_1 + 1)))
    (fun k38 =>
      bif (decide ((group.getD v_1.toNat default) < 0)) then
        k38 true
      else
        bif (decide (8 ≤ (group.getD v_1.toNat default))) then
          k38 true
        else
          bif (decide (0 < v_1)) then
            ck ((0 : Int) ≤ (IntKind.wrap .i64 (v_1 - 1)) ∧ (IntKind.wrap .i64 (v_1 - 1)) < (group.length : Int)) <|
            k38 (decide ((group.getD v_1.toNat default) ≤ (group.getD (IntKind.wrap .i64 (v_1 - 1)).toNat default)))
          else
            k38 false)
  else
    bif (decide ((group.length : Int) = 0)) then
      some (([] : List Int), false, 1)
    else
      (m42_coalition_own r_).bind fun own_1 =>
      (m41_coalition_costs r_ own_1 slots).bind fun costs_1 =>
      (m40_coalition_blocks r_ costs_1 group).bind fun blocks_1 =>
      some (blocks_1.1, blocks_1.2, 0)

def m17_coalition_Blocks (r_ : XRound) (slots : List Int) (group : List Int) : Option ((List Int) × Bool × Int) :=
  (m39_coalition_check r_ slots).bind fun check_1 =>
  bif (decide (check_1 ≠ 0)) then
    some (([] : List Int), false, check_1)
  else
    loop1 (m17_coalition_Blocks_B0 r_ slots group) (((group.length : Int) - 0).toNat + 1) 0

theorem c17_coalition_Blocks {w : World} {O : List Nat} {r_ : XRound} {slots : List Int} {group : List Int} {a_r__owners : Option Addr} {c_r__owners : Nat} {a_r__costs : Option Addr} {c_r__costs : Nat} {a_slots : Option Addr} {c_slots : Nat} {a_group : Option Addr} {c_group : Nat} (hO : ∀ k ∈ O, k < w.heap.size) (r_r__slots : InK .i64 r_.slots) (f_r__owners : SlR (rInt .i64) w O a_r__owners c_r__owners r_.owners) (f_r__costs : SlR (rSl (rInt .i64)) w O a_r__costs c_r__costs r_.costs) (f_slots : SlR (rInt .i64) w O a_slots c_slots slots) (f_group : SlR (rInt .i64) w O a_group c_group group) {x : (List Int) × Bool × Int} (hm : m17_coalition_Blocks r_ slots group = some x) :
    Ok Try.prog 17 [(Value.agg [(Value.int .i64 r_.slots), (Value.slice a_r__owners r_.owners.length c_r__owners), (Value.slice a_r__costs r_.costs.length c_r__costs)].toArray), (Value.slice a_slots slots.length c_slots), (Value.slice a_group group.length c_group)] w O (vT3 (vC (rSl (rInt .i64))) vB (vI .i64)) x := by
  unfold m17_coalition_Blocks at hm
  refine Fn_of_Wp (n := 61) (xs := [.tmp 6, .tmp 7, .tmp 8]) Try.func17 rfl Try.ntmps17 Try.results17 rfl ?_
  have hs := St.start hO
  refine Wp_seq ?_
  refine Wp_region ?_  -- 0 coalition.go:135
  refine Rg_op rfl (op_box (cs := [(Value.int .i64 r_.slots), (Value.slice a_r__owners r_.owners.length c_r__owners), (Value.slice a_r__costs r_.costs.length c_r__costs)]) hs rfl rfl ?_)
  intro b1 w2 _ p3 hs4
  replace f_r__owners := f_r__owners.step p3
  replace f_r__costs := f_r__costs.step p3
  replace f_slots := f_slots.step p3
  replace f_group := f_group.step p3
  clear p3
  refine Rg_op rfl (op_assign (v := (Value.slice none 0 0)) rfl ?_)
  refine Rg_op rfl (op_assign (v := (Value.bool false)) rfl ?_)
  refine Rg_op rfl (op_assign (v := (Value.int .i64 0)) rfl ?_)
  refine Rg_nil ?_
  refine Wp_seq ?_
  refine Wp_seq ?_
  refine Wp_region ?_  -- 1 coalition.go:136
  refine Rg_op rfl (op_loadA (cs := [(Value.int .i64 r_.slots), (Value.slice a_r__owners r_.owners.length c_r__owners), (Value.slice a_r__costs r_.costs.length c_r__costs)]) (vs := [(Value.int .i64 r_.slots), (Value.slice a_r__owners r_.owners.length c_r__owners), (Value.slice a_r__costs r_.costs.length c_r__costs)]) (i := 0) ty25 hs4 rfl rfl rfl rfl ?_)
  refine Rg_op rfl (op_move (v := (Value.slice a_slots slots.length c_slots)) rfl ?_)
  replace hm := bd hm; obtain ⟨check_1, hv6, hm⟩ := hm
  refine Rg_op rfl (op_call Try.call39 (c39_coalition_check (r_ := r_) (slots := slots) hs4.ltw r_r__slots f_r__owners f_r__costs f_slots hv6) rfl ?_)
  rintro v7 w8 ⟨hx9, h10⟩
  have hs11 := hs4.call hx9
  have p12 := Step.ext (O := ks [(some b1, Obj.cells [(Value.int .i64 r_.slots), (Value.slice a_r__owners r_.owners.length c_r__owners), (Value.slice a_r__costs r_.costs.length c_r__costs)].toArray 25)] O) hx9
  clear hx9
  replace f_r__owners := f_r__owners.step p12
  replace f_r__costs := f_r__costs.step p12
  replace f_slots := f_slots.step p12
  replace f_group := f_group.step p12
  clear p12 hs4
  obtain ⟨rfl, r_y13⟩ := h10
  refine Rg_op rfl (op_assign (v := (Value.int .i64 check_1)) rfl ?_)
  refine Rg_nil ?_
  refine Wp_seq ?_
  refine Wp_region ?_  -- 2 coalition.go:136
  refine Rg_op rfl (op_move (v := (Value.int .i64 check_1)) rfl ?_)
  refine Rg_op rfl (op_neq rfl rfl ?_)
  refine Rg_nil ?_
  refine Wp_cond rfl (fun hc14 => ?_) (fun hc14 => ?_)
  ·
    replace hm := bif_t hm hc14
    refine Wp_seq ?_
    obtain ⟨hs15, p16⟩ := hs11.sub (bs' := []) (.cons _ List.Sublist.slnil)
    clear f_r__owners f_r__costs f_slots f_group
    clear p16 hs11
    refine Wp_region ?_  -- 3 coalition.go:137
    refine Rg_op rfl (op_move (v := (Value.int .i64 check_1)) rfl ?_)
    refine Rg_op rfl (op_assign (v := (Value.slice none 0 0)) rfl ?_)
    refine Rg_op rfl (op_assign (v := (Value.bool false)) rfl ?_)
    refine Rg_op rfl (op_assign (v := (Value.int .i64 check_1)) rfl ?_)
    refine Rg_nil ?_
    refine Wp_ret ?_
    have hz := step_all hs15
    refine ⟨_, (show Closes [] _ _ from rfl), [(Value.slice none 0 0), (Value.bool false), (Value.int .i64 check_1)], ⟨rfl, rfl, rfl, trivial⟩, hs15.ext, ?_⟩
    exact Vr.eq (a := (vT3 (vC (rSl (rInt .i64))) vB (vI .i64))) (x := (([] : List Int), false, check_1)) (mkT3 (mkC (mk_sl SlR.nil_)) rfl ⟨rfl, r_y13⟩) (Option.some.inj hm)
  ·
    replace hm := bif_f hm hc14
    refine Wp_skip ?_
    refine Wp_seq ?_
    refine Wp_seq ?_
    refine Wp_region ?_  -- 4 coalition.go:139
    refine Rg_op rfl (op_move (v := (Value.slice a_group group.length c_group)) rfl ?_)
    refine Rg_op rfl (op_len Try.underlying22 rfl ?_)
    refine Rg_op rfl (op_move (v := (Value.int .i64 0)) rfl ?_)
    refine Rg_nil ?_
    refine Wp_block ?_
    refine Wp_reset [] [(1, (Value.slice a_slots slots.length c_slots)), (2, (Value.slice a_group group.length c_group)), (3, (Value.pointer (some ⟨b1, 0, none⟩))), (18, (Value.slice a_group group.length c_group)), (19, (Value.int .i64 (group.length : Int))), (20, (Value.int .i64 0))] rfl ⟨rfl, rfl, rfl, rfl, rfl, rfl, trivial⟩ fun ξ18 => ?_
    refine Wp_loopM [6, 7, 8, 10, 11, 20, 21, 22, 23, 24, 25, 26, 27, 28, 29, 30, 31, 32, 33, 34, 35, 36, 37, 38, 39, 40, 41, 42, 43, 44] (fun m fr w' => ∃ (v_1 : Int) (Ebs : Ents), Ebs = [(some b1, Obj.cells [(Value.int .i64 r_.slots), (Value.slice a_r__owners r_.owners.length c_r__owners), (Value.slice a_r__costs r_.costs.length c_r__costs)].toArray 25)] ∧ fr [] [(20, (Value.int .i64 v_1))] ∧ Step (ks [(some b1, Obj.cells [(Value.int .i64 r_.slots), (Value.slice a_r__owners r_.owners.length c_r__owners), (Value.slice a_r__costs r_.costs.length c_r__costs)].toArray 25)] O) w8 (ks Ebs O) w' ∧ St ⟨w, [], []⟩ O w' Ebs ∧ InK .i64 v_1 ∧ loop1 (m17_coalition_Blocks_B0 r_ slots group) m v_1 = some x) (((group.length : Int) - 0).toNat + 1) ⟨0, _, rfl, ⟨Out.refl _ _, rfl, rfl, trivial⟩, Step.refl _ _, hs11, (show InK .i64 0 from by decide), hm⟩ ?_ ?_
    · rintro _ _ ⟨_, _, _, _, _, _, _, hm⟩; exact loop1_z hm
    · rintro m22 K21 hK21 ρ27 w23 ⟨v_1, Ebs, hEbs, hfr26, hst25, hs24, r_y17, hm⟩
      obtain ⟨sf19, hsf20, hm⟩ := loop1_s hm; unfold m17_coalition_Blocks_B0 at hm
      subst hEbs; rw [hfr26.eq]; clear hfr26
      replace f_r__owners := f_r__owners.step hst25
      replace f_r__costs := f_r__costs.step hst25
      replace f_slots := f_slots.step hst25
      replace f_group := f_group.step hst25
      have ch28 := hst25
      refine Wp_seq ?_
      refine Wp_region ?_  -- 5 coalition.go:139
      refine Rg_op rfl (op_lss rfl rfl ?_)
      refine Rg_nil ?_
      refine Wp_seq ?_
      refine Wp_cond rfl (fun hc29 => ?_) (fun hc29 => ?_)
      ·
        replace hm := bif_t hm hc29
        refine Wp_skip ?_
        refine Wp_seq ?_
        refine Wp_block ?_
        refine Wp_seq ?_
        refine Wp_region ?_  -- 6 coalition.go:139
        refine Rg_op rfl (op_move (v := (Value.int .i64 v_1)) rfl ?_)
        replace hm := ck_some hm; obtain ⟨hc30, hm⟩ := hm
        refine Rg_op rfl (op_indexAddr (q := (rInt .i64)) ty22 ty3 rfl rfl f_group rfl hc30.1 hc30.2 ?_)
        intro p31 f32
        refine Rg_op rfl (op_loadP ty3 rfl f32 rfl ?_)
        intro v33 h34
        obtain ⟨rfl, r_y35⟩ := un_int h34
        refine Rg_op rfl (op_assign (v := (Value.int .i64 v_1)) rfl ?_)
        refine Rg_op rfl (op_assign (v := (Value.int .i64 (group.getD v_1.toNat default))) rfl ?_)
        refine Rg_nil ?_
        refine Wp_reset2 [6, 7, 8, 10, 11, 20, 21, 22, 23, 24, 25, 26, 27, 28, 29, 30, 31, 32, 33, 34, 35, 36, 37, 38, 39, 40, 41, 42, 43, 44] [] (updL ⟨ξ18, []⟩ [(1, (Value.slice a_slots slots.length c_slots)), (2, (Value.slice a_group group.length c_group)), (3, (Value.pointer (some ⟨b1, 0, none⟩))), (18, (Value.slice a_group group.length c_group)), (19, (Value.int .i64 (group.length : Int))), (20, (Value.int .i64 0))]) [(10, (Value.int .i64 v_1)), (11, (Value.int .i64 (group.getD v_1.toNat default))), (20, (Value.int .i64 v_1))] (by repeat (first | with_reducible exact Out.refl _ _ | refine Out.upd ?_ rfl | refine Out.updL ?_ rfl | refine Out.mix' ?_ rfl | exact Out.refl _ _)) rfl ⟨rfl, rfl, rfl, trivial⟩ fun ξ36 => ?_
        replace hm := jn_elim hm; obtain ⟨k38, hk39, hm⟩ := hm
        refine Wp_seqJ [25, 26, 27, 28, 29, 30, 31, 32, 33, 34, 35, 36, 37, 38, 39, 40, 41, 42, 43] (fun fr w' => ∃ (v_2 : Bool) (Ebs : Ents), Ebs = [(some b1, Obj.cells [(Value.int .i64 r_.slots), (Value.slice a_r__owners r_.owners.length c_r__owners), (Value.slice a_r__costs r_.costs.length c_r__costs)].toArray 25)] ∧ fr [] [(43, (Value.bool v_2))] ∧ Step (ks [(some b1, Obj.cells [(Value.int .i64 r_.slots), (Value.slice a_r__owners r_.owners.length c_r__owners), (Value.slice a_r__costs r_.costs.length c_r__costs)].toArray 25)] O) w23 (ks Ebs O) w' ∧ St ⟨w, [], []⟩ O w' Ebs ∧ k38 v_2 = some x) ?_ ?_
        ·
          rintro ρ45 w41 ⟨v_2, Ebs, hEbs, hfr44, hst43, hs42, hm⟩
          replace hm := jnE1 hk39 hm
          subst hEbs; rw [hfr44.eq]; clear hfr44
          replace f_r__owners := f_r__owners.step hst43
          replace f_r__costs := f_r__costs.step hst43
          replace f_slots := f_slots.step hst43
          replace f_group := f_group.step hst43
          replace f32 := f32.step hst43
          replace ch28 := ch28.trans hst43
          clear hst43 hs24
          refine Wp_cond rfl (fun hc46 => ?_) (fun hc46 => ?_)
          ·
            replace hm := bif_t hm hc46
            refine Wp_seq ?_
            clear f_slots f_group f32
            refine Wp_region ?_  -- 8 coalition.go:141
            refine Rg_op rfl (op_assign (v := (Value.slice none 0 0)) rfl ?_)
            refine Rg_op rfl (op_assign (v := (Value.bool false)) rfl ?_)
            refine Rg_op rfl (op_assign (v := (Value.int .i64 1)) rfl ?_)
            refine Rg_nil ?_
            refine Wp_ret ?_
            have hz := step_all hs42
            replace f_r__owners := f_r__owners.step hz
            replace f_r__costs := f_r__costs.step hz
            refine ⟨_, (show Closes [] _ _ from rfl), [(Value.slice none 0 0), (Value.bool false), (Value.int .i64 1)], ⟨rfl, rfl, rfl, trivial⟩, hs42.ext, ?_⟩
            exact Vr.eq (a := (vT3 (vC (rSl (rInt .i64))) vB (vI .i64))) (x := (([] : List Int), false, 1)) (mkT3 (mkC (mk_sl SlR.nil_)) rfl ⟨rfl, (show InK .i64 1 from by decide)⟩) (Option.some.inj hm)
          ·
            replace hm := bif_f hm hc46
            refine Wp_skip ?_
            clear f32
            refine Wp_region ?_  -- 9 coalition.go:139
            refine Rg_op rfl (op_addw rfl rfl ?_)
            refine Rg_op rfl (op_move (v := (Value.int .i64 (IntKind.wrap .i64 (v_1 + 1)))) rfl ?_)
            refine Rg_nil ?_
            exact hK21 _ _ ⟨(IntKind.wrap .i64 (v_1 + 1)), _, rfl, ⟨(by repeat (first | with_reducible exact Out.refl _ _ | refine Out.upd ?_ rfl | refine Out.updL ?_ rfl | refine Out.mix' ?_ rfl | exact Out.refl _ _)), rfl, rfl, trivial⟩, ch28, hs42, (inK_wrap .i64 _), jnE1 hsf20 hm⟩
        ·
          intro K40 hK40
          have ch47 := Step.refl (ks [(some b1, Obj.cells [(Value.int .i64 r_.slots), (Value.slice a_r__owners r_.owners.length c_r__owners), (Value.slice a_r__costs r_.costs.length c_r__costs)].toArray 25)] O) w23
          clear f32
          refine Wp_region ?_  -- 7 coalition.go:140
          refine Rg_op rfl (op_move (v := (Value.int .i64 (group.getD v_1.toNat default))) rfl ?_)
          refine Rg_op rfl (op_lss rfl rfl ?_)
          refine Rg_op rfl (op_move (v := (Value.bool (decide ((group.getD v_1.toNat default) < 0)))) rfl ?_)
          refine Rg_case (fun hg48 => ?_) (fun hg48 => ?_)
          ·
            replace hm := bif_t hm hg48
            refine Rg_opx rfl (asB_ne rfl rfl) rfl ?_
            refine Rg_opx rfl (asB_ne rfl rfl) rfl ?_
            refine Rg_op rfl (op_pick_t (v := (Value.bool true)) rfl rfl ?_)
            refine Rg_op rfl (op_move (v := (Value.bool true)) rfl ?_)
            refine Rg_opx rfl (asB_ne rfl rfl) rfl ?_
            refine Rg_opx rfl (asB_ne rfl rfl) rfl ?_
            refine Rg_opx rfl (asB_ne rfl rfl) rfl ?_
            refine Rg_opx rfl (asB_ne rfl rfl) rfl ?_
            refine Rg_opx rfl (asB_ne rfl rfl) rfl ?_
            refine Rg_opx rfl (asB_ne rfl rfl) rfl ?_
            refine Rg_opx rfl (asB_ne rfl rfl) rfl ?_
            refine Rg_opx rfl (asB_ne rfl rfl) rfl ?_
            refine Rg_opx rfl (asB_ne rfl rfl) rfl ?_
            refine Rg_opx rfl (asB_ne rfl rfl) rfl ?_
            refine Rg_opx rfl (asB_ne rfl rfl) rfl ?_
            refine Rg_op rfl (op_pick_t (v := (Value.bool true)) rfl rfl ?_)
            refine Rg_nil ?_
            exact hK40 _ _ ⟨true, _, rfl, ⟨(by repeat (first | with_reducible exact Out.refl _ _ | refine Out.upd ?_ rfl | refine Out.updL ?_ rfl | refine Out.mix' ?_ rfl | exact Out.refl _ _)), rfl, rfl, trivial⟩, ch47, hs24, hm⟩
          ·
            replace hm := bif_f hm hg48
            refine Rg_opg rfl rfl rfl (op_move (v := (Value.int .i64 (group.getD v_1.toNat default))) rfl ?_)
            refine Rg_opg rfl rfl rfl (op_geq rfl rfl ?_)
            refine Rg_op rfl (op_pick_f (v := (Value.bool (decide (8 ≤ (group.getD v_1.toNat default))))) rfl rfl ?_)
            refine Rg_op rfl (op_move (v := (Value.bool (decide (8 ≤ (group.getD v_1.toNat default))))) rfl ?_)
            refine Rg_case (fun hg49 => ?_) (fun hg49 => ?_)
            ·
              replace hm := bif_t hm hg49
              refine Rg_opx rfl (asB_ne rfl rfl) rfl ?_
              refine Rg_opx rfl (asB_ne rfl rfl) rfl ?_
              refine Rg_opx rfl (asB_ne rfl rfl) rfl ?_
              refine Rg_opx rfl (asB_ne rfl rfl) rfl ?_
              refine Rg_opx rfl (asB_ne rfl rfl) rfl ?_
              refine Rg_opx rfl (asB_ne rfl rfl) rfl ?_
              refine Rg_opx rfl (asB_ne rfl rfl) rfl ?_
              refine Rg_opx rfl (asB_ne rfl rfl) rfl ?_
              refine Rg_opx rfl (asB_ne rfl rfl) rfl ?_
              refine Rg_opx rfl (asB_ne rfl rfl) rfl ?_
              refine Rg_opx rfl (asB_ne rfl rfl) rfl ?_
              refine Rg_op rfl (op_pick_t (v := (Value.bool true)) rfl rfl ?_)
              refine Rg_nil ?_
              exact hK40 _ _ ⟨true, _, rfl, ⟨(by repeat (first | with_reducible exact Out.refl _ _ | refine Out.upd ?_ rfl | refine Out.updL ?_ rfl | refine Out.mix' ?_ rfl | exact Out.refl _ _)), rfl, rfl, trivial⟩, ch47, hs24, hm⟩
            ·
              replace hm := bif_f hm hg49
              refine Rg_opg rfl rfl rfl (op_move (v := (Value.int .i64 v_1)) rfl ?_)
              refine Rg_opg rfl rfl rfl (op_gtr rfl rfl ?_)
              refine Rg_opg rfl rfl rfl (op_move (v := (Value.bool (decide (0 < v_1)))) rfl ?_)
              refine Rg_case (fun hg50 => ?_) (fun hg50 => ?_)
              ·
                replace hm := bif_t hm hg50
                refine Rg_opg rfl rfl rfl (op_move (v := (Value.slice a_group group.length c_group)) rfl ?_)
                refine Rg_opg rfl rfl rfl (op_move (v := (Value.int .i64 v_1)) rfl ?_)
                refine Rg_opg rfl rfl rfl (op_subw rfl rfl ?_)
                replace hm := ck_some hm; obtain ⟨hc51, hm⟩ := hm
                refine Rg_opg rfl rfl rfl (op_indexAddr (q := (rInt .i64)) ty22 ty3 rfl rfl f_group rfl hc51.1 hc51.2 ?_)
                intro p52 f53
                refine Rg_opg rfl rfl rfl (op_loadP ty3 rfl f53 rfl ?_)
                intro v54 h55
                obtain ⟨rfl, r_y56⟩ := un_int h55
                refine Rg_opg rfl rfl rfl (op_move (v := (Value.int .i64 (group.getD v_1.toNat default))) rfl ?_)
                refine Rg_opg rfl rfl rfl (op_geq rfl rfl ?_)
                refine Rg_opg rfl rfl rfl (op_pick_t (v := (Value.bool (decide ((group.getD v_1.toNat default) ≤ (group.getD (IntKind.wrap .i64 (v_1 - 1)).toNat default))))) rfl rfl ?_)
                refine Rg_op rfl (op_pick_f (v := (Value.bool (decide ((group.getD v_1.toNat default) ≤ (group.getD (IntKind.wrap .i64 (v_1 - 1)).toNat default))))) rfl rfl ?_)
                refine Rg_nil ?_
                exact hK40 _ _ ⟨(decide ((group.getD v_1.toNat default) ≤ (group.getD (IntKind.wrap .i64 (v_1 - 1)).toNat default))), _, rfl, ⟨(by repeat (first | with_reducible exact Out.refl _ _ | refine Out.upd ?_ rfl | refine Out.updL ?_ rfl | refine Out.mix' ?_ rfl | exact Out.refl _ _)), rfl, rfl, trivial⟩, ch47, hs24, hm⟩
              ·
                replace hm := bif_f hm hg50
                refine Rg_opx rfl (asB_ne rfl rfl) rfl ?_
                refine Rg_opx rfl (asB_ne rfl rfl) rfl ?_
                refine Rg_opx rfl (asB_ne rfl rfl) rfl ?_
                refine Rg_opx rfl (asB_ne rfl rfl) rfl ?_
                refine Rg_opx rfl (asB_ne rfl rfl) rfl ?_
                refine Rg_opx rfl (asB_ne rfl rfl) rfl ?_
                refine Rg_opx rfl (asB_ne rfl rfl) rfl ?_
                refine Rg_opg rfl rfl rfl (op_pick_f (v := (Value.bool false)) rfl rfl ?_)
                refine Rg_op rfl (op_pick_f (v := (Value.bool false)) rfl rfl ?_)
                refine Rg_nil ?_
                exact hK40 _ _ ⟨false, _, rfl, ⟨(by repeat (first | with_reducible exact Out.refl _ _ | refine Out.upd ?_ rfl | refine Out.updL ?_ rfl | refine Out.mix' ?_ rfl | exact Out.refl _ _)), rfl, rfl, trivial⟩, ch47, hs24, hm⟩
      ·
        replace hm := bif_f hm hc29
        refine Wp_exit ?_
        refine Wp_seq ?_
        refine Wp_seq ?_
        refine Wp_region ?_  -- 10 coalition.go:144
        refine Rg_op rfl (op_move (v := (Value.slice a_group group.length c_group)) rfl ?_)
        refine Rg_op rfl (op_len Try.underlying22 rfl ?_)
        refine Rg_op rfl (op_eql rfl rfl ?_)
        refine Rg_nil ?_
        refine Wp_cond rfl (fun hc57 => ?_) (fun hc57 => ?_)
        ·
          replace hm := bif_t hm hc57
          refine Wp_seq ?_
          obtain ⟨hs58, p59⟩ := hs24.sub (bs' := []) (.cons _ List.Sublist.slnil)
          clear f_r__owners f_r__costs f_slots f_group
          replace ch28 := ch28.trans p59
          clear p59 hs24
          refine Wp_region ?_  -- 11 coalition.go:145
          refine Rg_op rfl (op_assign (v := (Value.slice none 0 0)) rfl ?_)
          refine Rg_op rfl (op_assign (v := (Value.bool false)) rfl ?_)
          refine Rg_op rfl (op_assign (v := (Value.int .i64 1)) rfl ?_)
          refine Rg_nil ?_
          refine Wp_ret ?_
          have hz := step_all hs58
          refine ⟨_, (show Closes [] _ _ from rfl), [(Value.slice none 0 0), (Value.bool false), (Value.int .i64 1)], ⟨rfl, rfl, rfl, trivial⟩, hs58.ext, ?_⟩
          exact Vr.eq (a := (vT3 (vC (rSl (rInt .i64))) vB (vI .i64))) (x := (([] : List Int), false, 1)) (mkT3 (mkC (mk_sl SlR.nil_)) rfl ⟨rfl, (show InK .i64 1 from by decide)⟩) (Option.some.inj hm)
        ·
          replace hm := bif_f hm hc57
          refine Wp_skip ?_
          refine Wp_seq ?_
          refine Wp_drawR (g0 := []) (m := 11) (fl := [10]) (TS_inv hs24) (.inl rfl) rfl (by decide +kernel) ?_  -- 12
          refine Dw_eq (Value.agg [(Value.int .i64 r_.slots), (Value.slice a_r__owners r_.owners.length c_r__owners), (Value.slice a_r__costs r_.costs.length c_r__costs)].toArray) (fun ρ60 w61 g hle hi ht => ?_) ?_
          ·
            obtain ⟨-, hst, -⟩ := hle
            have hsn := (Step.nx hi).1
            refine StepOp_plain (op_loadA (cs := [(Value.int .i64 r_.slots), (Value.slice a_r__owners r_.owners.length c_r__owners), (Value.slice a_r__costs r_.costs.length c_r__costs)]) (vs := [(Value.int .i64 r_.slots), (Value.slice a_r__owners r_.owners.length c_r__owners), (Value.slice a_r__costs r_.costs.length c_r__costs)]) (i := 0) ty25 hsn (ht 3 rfl) rfl rfl rfl ?_)
            exact Goes.same hi rfl
          refine Dw_eq (Value.agg [(Value.int .i64 r_.slots), (Value.slice a_r__owners r_.owners.length c_r__owners), (Value.slice a_r__costs r_.costs.length c_r__costs)].toArray) (fun ρ63 w64 g hle hi ht => ?_) ?_
          ·
            obtain ⟨-, hst, -⟩ := hle
            have hsn := (Step.nx hi).1
            refine StepOp_plain (op_loadA (cs := [(Value.int .i64 r_.slots), (Value.slice a_r__owners r_.owners.length c_r__owners), (Value.slice a_r__costs r_.costs.length c_r__costs)]) (vs := [(Value.int .i64 r_.slots), (Value.slice a_r__owners r_.owners.length c_r__owners), (Value.slice a_r__costs r_.costs.length c_r__costs)]) (i := 0) ty25 hsn (ht 3 rfl) rfl rfl rfl ?_)
            exact Goes.same hi rfl
          refine Dw_eq (Value.agg [(Value.int .i64 r_.slots), (Value.slice a_r__owners r_.owners.length c_r__owners), (Value.slice a_r__costs r_.costs.length c_r__costs)].toArray) (fun ρ66 w67 g hle hi ht => ?_) ?_
          ·
            obtain ⟨-, hst, -⟩ := hle
            have hsn := (Step.nx hi).1
            refine StepOp_plain (op_loadA (cs := [(Value.int .i64 r_.slots), (Value.slice a_r__owners r_.owners.length c_r__owners), (Value.slice a_r__costs r_.costs.length c_r__costs)]) (vs := [(Value.int .i64 r_.slots), (Value.slice a_r__owners r_.owners.length c_r__owners), (Value.slice a_r__costs r_.costs.length c_r__costs)]) (i := 0) ty25 hsn (ht 3 rfl) rfl rfl rfl ?_)
            exact Goes.same hi rfl
          replace hm := bd hm; obtain ⟨own_1, hv72, hm⟩ := hm
          refine Dw_op (VD O [(some b1, Obj.cells [(Value.int .i64 r_.slots), (Value.slice a_r__owners r_.owners.length c_r__owners), (Value.slice a_r__costs r_.costs.length c_r__costs)].toArray 25)] (vC (rSl (rInt .i64))) own_1) (VD.stab _ _) (fun ρ69 w70 g hle hi ht => ?_) ?_
          ·
            obtain ⟨-, hst, -⟩ := hle
            replace f_r__owners := f_r__owners.step hst
            replace f_r__costs := f_r__costs.step hst
            refine StepOp_plain (op_call Try.call42 (c42_coalition_own (O := ks (ents g ++ [(some b1, Obj.cells [(Value.int .i64 r_.slots), (Value.slice a_r__owners r_.owners.length c_r__owners), (Value.slice a_r__costs r_.costs.length c_r__costs)].toArray 25)]) O) (r_ := r_) hi.ltw r_r__slots f_r__owners f_r__costs hv72) (by simp only [List.map, Array.toList, (show ev _ (.tmp 51) = _ from (ht 51 rfl))] <;> rfl) ?_)
            rintro v73 w74 ⟨hx75, h76⟩
            exact Goes.call hi hx75 h76
          refine Dw_eq (Value.slice a_slots slots.length c_slots) (fun ρ78 w79 g hle hi ht => ?_) ?_
          ·
            obtain ⟨-, hst, -⟩ := hle
            refine StepOp_plain (op_move (v := (Value.slice a_slots slots.length c_slots)) (ht 1 rfl) ?_)
            exact Goes.same hi rfl
          replace hm := bd hm; obtain ⟨costs_1, hv87, hm⟩ := hm
          refine Dw_op (VD O [(some b1, Obj.cells [(Value.int .i64 r_.slots), (Value.slice a_r__owners r_.owners.length c_r__owners), (Value.slice a_r__costs r_.costs.length c_r__costs)].toArray 25)] (vC (rSl (rInt .i64))) costs_1) (VD.stab _ _) (fun ρ81 w82 g hle hi ht => ?_) ?_
          ·
            obtain ⟨-, hst, -⟩ := hle
            replace f_r__owners := f_r__owners.step hst
            replace f_r__costs := f_r__costs.step hst
            replace f_slots := f_slots.step hst
            have h84 : Vr.vd (vC (rSl (rInt .i64))) _ _ _ _ := ht 52 rfl
            obtain ⟨a_y86, c_y86, q85, f_y86⟩ := un_sl h84
            refine StepOp_plain (op_call Try.call41 (c41_coalition_costs (O := ks (ents g ++ [(some b1, Obj.cells [(Value.int .i64 r_.slots), (Value.slice a_r__owners r_.owners.length c_r__owners), (Value.slice a_r__costs r_.costs.length c_r__costs)].toArray 25)]) O) (r_ := r_) (flights := own_1) (slots := slots) hi.ltw r_r__slots f_r__owners f_r__costs f_y86 f_slots hv87) (by simp only [List.map, Array.toList, (show ev _ (.tmp 50) = _ from (ht 50 rfl)), (show ev _ (.tmp 52) = _ from q85), (show ev _ (.tmp 53) = _ from (ht 53 rfl))] <;> rfl) ?_)
            rintro v88 w89 ⟨hx90, h91⟩
            exact Goes.call hi hx90 h91
          refine Dw_eq (Value.slice a_group group.length c_group) (fun ρ93 w94 g hle hi ht => ?_) ?_
          ·
            obtain ⟨-, hst, -⟩ := hle
            refine StepOp_plain (op_move (v := (Value.slice a_group group.length c_group)) (ht 2 rfl) ?_)
            exact Goes.same hi rfl
          replace hm := bd hm; obtain ⟨blocks_1, hv102, hm⟩ := hm
          refine Dw_op (VD O [(some b1, Obj.cells [(Value.int .i64 r_.slots), (Value.slice a_r__owners r_.owners.length c_r__owners), (Value.slice a_r__costs r_.costs.length c_r__costs)].toArray 25)] (vT2 (vC (rSl (rInt .i64))) vB) blocks_1) (VD.stab _ _) (fun ρ96 w97 g hle hi ht => ?_) ?_
          ·
            obtain ⟨-, hst, -⟩ := hle
            replace f_r__owners := f_r__owners.step hst
            replace f_r__costs := f_r__costs.step hst
            replace f_group := f_group.step hst
            have h99 : Vr.vd (vC (rSl (rInt .i64))) _ _ _ _ := ht 54 rfl
            obtain ⟨a_y101, c_y101, q100, f_y101⟩ := un_sl h99
            refine StepOp_plain (op_call Try.call40 (c40_coalition_blocks (O := ks (ents g ++ [(some b1, Obj.cells [(Value.int .i64 r_.slots), (Value.slice a_r__owners r_.owners.length c_r__owners), (Value.slice a_r__costs r_.costs.length c_r__costs)].toArray 25)]) O) (r_ := r_) (than := costs_1) (group := group) hi.ltw r_r__slots f_r__owners f_r__costs f_y101 f_group hv102) (by simp only [List.map, Array.toList, (show ev _ (.tmp 49) = _ from (ht 49 rfl)), (show ev _ (.tmp 54) = _ from q100), (show ev _ (.tmp 55) = _ from (ht 55 rfl))] <;> rfl) ?_)
            rintro v103 w104 ⟨hx105, h106⟩
            exact Goes.call hi hx105 h106
          refine Dw_op (VD O [(some b1, Obj.cells [(Value.int .i64 r_.slots), (Value.slice a_r__owners r_.owners.length c_r__owners), (Value.slice a_r__costs r_.costs.length c_r__costs)].toArray 25)] (vT2 (vC (rSl (rInt .i64))) vB) blocks_1) (VD.stab _ _) (fun ρ108 w109 g hle hi ht => ?_) ?_
          ·
            obtain ⟨-, hst, -⟩ := hle
            have h : Vr.vd (vT2 (vC (rSl (rInt .i64))) vB) _ _ _ _ := ht 56 rfl
            refine StepOp_plain (op_move rfl (Goes.same hi h))
          refine Dw_op (VD O [(some b1, Obj.cells [(Value.int .i64 r_.slots), (Value.slice a_r__owners r_.owners.length c_r__owners), (Value.slice a_r__costs r_.costs.length c_r__costs)].toArray 25)] (vC (rSl (rInt .i64))) blocks_1.1) (VD.stab _ _) (fun ρ119 w120 g hle hi ht => ?_) ?_
          ·
            obtain ⟨-, hst, -⟩ := hle
            have h122 : Vr.vd (vT2 (vC (rSl (rInt .i64))) vB) _ _ _ _ := ht 48 rfl
            obtain ⟨v124, v125, q123, h126, h127⟩ := h122
            obtain ⟨a_y128, c_y128, rfl, f_y128⟩ := un_sl h126
            obtain rfl := h127
            refine StepOp_plain (op_extract (v := (Value.slice a_y128 blocks_1.1.length c_y128)) q123 rfl ?_)
            exact Goes.same hi (show Vr.vd (vC (rSl (rInt .i64))) _ _ _ _ from (mkC (mk_sl f_y128)))
          refine Dw_eq (Value.bool blocks_1.2) (fun ρ130 w131 g hle hi ht => ?_) ?_
          ·
            obtain ⟨-, hst, -⟩ := hle
            have h133 : Vr.vd (vT2 (vC (rSl (rInt .i64))) vB) _ _ _ _ := ht 48 rfl
            obtain ⟨v135, v136, q134, h137, h138⟩ := h133
            obtain ⟨a_y139, c_y139, rfl, f_y139⟩ := un_sl h137
            obtain rfl := h138
            refine StepOp_plain (op_extract (v := (Value.bool blocks_1.2)) q134 rfl ?_)
            exact Goes.same hi rfl
          refine Dw_nil fun w145 g146 hl147 hi148 => ?_
          obtain ⟨-, hst149, -⟩ := hl147
          obtain ⟨hs151, p150⟩ := Step.nx hi148
          rintro _ rfl
          rintro v152 h153
          replace h153 : Vr.vd (vC (rSl (rInt .i64))) _ _ _ _ := h153
          obtain ⟨a_y154, c_y154, rfl, f_y154⟩ := un_sl h153
          rintro v155 h156
          replace h156 : Vr.vd (vT2 (vC (rSl (rInt .i64))) vB) _ _ _ _ := h156
          obtain ⟨v157, v158, rfl, h159, h160⟩ := h156
          obtain ⟨a_y161, c_y161, rfl, f_y161⟩ := un_sl h159
          obtain rfl := h160
          rintro v163 h164
          replace h164 : Vr.vd (vT2 (vC (rSl (rInt .i64))) vB) _ _ _ _ := h164
          obtain ⟨v165, v166, rfl, h167, h168⟩ := h164
          obtain ⟨a_y169, c_y169, rfl, f_y169⟩ := un_sl h167
          obtain rfl := h168
          rintro _ rfl
          rintro v171 h172
          replace h172 : Vr.vd (vC (rSl (rInt .i64))) _ _ _ _ := h172
          obtain ⟨a_y173, c_y173, rfl, f_y173⟩ := un_sl h172
          rintro _ rfl
          rintro v174 h175
          replace h175 : Vr.vd (vC (rSl (rInt .i64))) _ _ _ _ := h175
          obtain ⟨a_y176, c_y176, rfl, f_y176⟩ := un_sl h175
          rintro _ rfl
          rintro _ rfl
          rintro _ rfl
          have p177 : Step (ks [(some b1, Obj.cells [(Value.int .i64 r_.slots), (Value.slice a_r__owners r_.owners.length c_r__owners), (Value.slice a_r__costs r_.costs.length c_r__costs)].toArray 25)] O) w23 (ks [(some b1, Obj.cells [(Value.int .i64 r_.slots), (Value.slice a_r__owners r_.owners.length c_r__owners), (Value.slice a_r__costs r_.costs.length c_r__costs)].toArray 25)] O) w145 := hst149.trans p150
          replace f_y154 := f_y154.step p150
          replace f_y161 := f_y161.step p150
          replace f_y169 := f_y169.step p150
          replace f_y173 := f_y173.step p150
          replace f_y176 := f_y176.step p150
          replace f_r__owners := f_r__owners.step p177
          replace f_r__costs := f_r__costs.step p177
          replace f_slots := f_slots.step p177
          replace f_group := f_group.step p177
          replace ch28 := ch28.trans p177
          clear p177 hs24
          refine Rg_op rfl (op_assign (v := (Value.slice a_y154 blocks_1.1.length c_y154)) rfl ?_)
          refine Rg_op rfl (op_assign (v := (Value.bool blocks_1.2)) rfl ?_)
          refine Rg_nil ?_
          refine Wp_seq ?_
          obtain ⟨hs178, p179⟩ := hs151.sub (bs' := []) (.cons _ List.Sublist.slnil)
          clear f_r__owners f_r__costs f_slots f_group f_y161 f_y169 f_y173 f_y176
          replace f_y154 := f_y154.step p179
          replace ch28 := ch28.trans p179
          clear p179 hs151
          refine Wp_region ?_  -- 13 coalition.go:148
          refine Rg_op rfl (op_move (v := (Value.slice a_y154 blocks_1.1.length c_y154)) rfl ?_)
          refine Rg_op rfl (op_move (v := (Value.bool blocks_1.2)) rfl ?_)
          refine Rg_op rfl (op_assign (v := (Value.slice a_y154 blocks_1.1.length c_y154)) rfl ?_)
          refine Rg_op rfl (op_assign (v := (Value.bool blocks_1.2)) rfl ?_)
          refine Rg_op rfl (op_assign (v := (Value.int .i64 0)) rfl ?_)
          refine Rg_nil ?_
          refine Wp_ret ?_
          have hz := step_all hs178
          replace f_y154 := f_y154.step hz
          refine ⟨_, (show Closes [] _ _ from rfl), [(Value.slice a_y154 blocks_1.1.length c_y154), (Value.bool blocks_1.2), (Value.int .i64 0)], ⟨rfl, rfl, rfl, trivial⟩, hs178.ext, ?_⟩
          exact Vr.eq (a := (vT3 (vC (rSl (rInt .i64))) vB (vI .i64))) (x := (blocks_1.1, blocks_1.2, 0)) (mkT3 (mkC (mk_sl f_y154)) rfl ⟨rfl, (show InK .i64 0 from by decide)⟩) (Option.some.inj hm)

end Go.Fx


set_option linter.unusedVariables false
set_option linter.unusedSimpArgs false
set_option maxRecDepth 100000
set_option maxHeartbeats 0
namespace Go.Fx
open Go Go.RowKit Go.Proofs
def m18_coalition_Costs (r_ : XRound) (slots : List Int) : Option ((List Int) × Int) :=
  (m39_coalition_check r_ slots).bind fun check_1 =>
  bif (decide (check_1 ≠ 0)) then
    some (([] : List Int), check_1)
  else
    (m42_coalition_own r_).bind fun own_1 =>
    (m41_coalition_costs r_ own_1 slots).bind fun costs_1 =>
    some (costs_1, 0)

theorem c18_coalition_Costs {w : World} {O : List Nat} {r_ : XRound} {slots : List Int} {a_r__owners : Option Addr} {c_r__owners : Nat} {a_r__costs : Option Addr} {c_r__costs : Nat} {a_slots : Option Addr} {c_slots : Nat} (hO : ∀ k ∈ O, k < w.heap.size) (r_r__slots : InK .i64 r_.slots) (f_r__owners : SlR (rInt .i64) w O a_r__owners c_r__owners r_.owners) (f_r__costs : SlR (rSl (rInt .i64)) w O a_r__costs c_r__costs r_.costs) (f_slots : SlR (rInt .i64) w O a_slots c_slots slots) {x : (List Int) × Int} (hm : m18_coalition_Costs r_ slots = some x) :
    Ok Try.prog 18 [(Value.agg [(Value.int .i64 r_.slots), (Value.slice a_r__owners r_.owners.length c_r__owners), (Value.slice a_r__costs r_.costs.length c_r__costs)].toArray), (Value.slice a_slots slots.length c_slots)] w O (vT2 (vC (rSl (rInt .i64))) (vI .i64)) x := by
  unfold m18_coalition_Costs at hm
  refine Fn_of_Wp (n := 18) (xs := [.tmp 4, .tmp 5]) Try.func18 rfl Try.ntmps18 Try.results18 rfl ?_
  have hs := St.start hO
  refine Wp_seq ?_
  refine Wp_region ?_  -- 0 coalition.go:72
  refine Rg_op rfl (op_box (cs := [(Value.int .i64 r_.slots), (Value.slice a_r__owners r_.owners.length c_r__owners), (Value.slice a_r__costs r_.costs.length c_r__costs)]) hs rfl rfl ?_)
  intro b1 w2 _ p3 hs4
  replace f_r__owners := f_r__owners.step p3
  replace f_r__costs := f_r__costs.step p3
  replace f_slots := f_slots.step p3
  clear p3
  refine Rg_op rfl (op_assign (v := (Value.slice none 0 0)) rfl ?_)
  refine Rg_op rfl (op_assign (v := (Value.int .i64 0)) rfl ?_)
  refine Rg_nil ?_
  refine Wp_seq ?_
  refine Wp_seq ?_
  refine Wp_region ?_  -- 1 coalition.go:73
  refine Rg_op rfl (op_loadA (cs := [(Value.int .i64 r_.slots), (Value.slice a_r__owners r_.owners.length c_r__owners), (Value.slice a_r__costs r_.costs.length c_r__costs)]) (vs := [(Value.int .i64 r_.slots), (Value.slice a_r__owners r_.owners.length c_r__owners), (Value.slice a_r__costs r_.costs.length c_r__costs)]) (i := 0) ty25 hs4 rfl rfl rfl rfl ?_)
  refine Rg_op rfl (op_move (v := (Value.slice a_slots slots.length c_slots)) rfl ?_)
  replace hm := bd hm; obtain ⟨check_1, hv6, hm⟩ := hm
  refine Rg_op rfl (op_call Try.call39 (c39_coalition_check (r_ := r_) (slots := slots) hs4.ltw r_r__slots f_r__owners f_r__costs f_slots hv6) rfl ?_)
  rintro v7 w8 ⟨hx9, h10⟩
  have hs11 := hs4.call hx9
  have p12 := Step.ext (O := ks [(some b1, Obj.cells [(Value.int .i64 r_.slots), (Value.slice a_r__owners r_.owners.length c_r__owners), (Value.slice a_r__costs r_.costs.length c_r__costs)].toArray 25)] O) hx9
  clear hx9
  replace f_r__owners := f_r__owners.step p12
  replace f_r__costs := f_r__costs.step p12
  replace f_slots := f_slots.step p12
  clear p12 hs4
  obtain ⟨rfl, r_y13⟩ := h10
  refine Rg_op rfl (op_assign (v := (Value.int .i64 check_1)) rfl ?_)
  refine Rg_nil ?_
  refine Wp_seq ?_
  refine Wp_region ?_  -- 2 coalition.go:73
  refine Rg_op rfl (op_move (v := (Value.int .i64 check_1)) rfl ?_)
  refine Rg_op rfl (op_neq rfl rfl ?_)
  refine Rg_nil ?_
  refine Wp_cond rfl (fun hc14 => ?_) (fun hc14 => ?_)
  ·
    replace hm := bif_t hm hc14
    refine Wp_seq ?_
    obtain ⟨hs15, p16⟩ := hs11.sub (bs' := []) (.cons _ List.Sublist.slnil)
    clear f_r__owners f_r__costs f_slots
    clear p16 hs11
    refine Wp_region ?_  -- 3 coalition.go:74
    refine Rg_op rfl (op_move (v := (Value.int .i64 check_1)) rfl ?_)
    refine Rg_op rfl (op_assign (v := (Value.slice none 0 0)) rfl ?_)
    refine Rg_op rfl (op_assign (v := (Value.int .i64 check_1)) rfl ?_)
    refine Rg_nil ?_
    refine Wp_ret ?_
    have hz := step_all hs15
    refine ⟨_, (show Closes [] _ _ from rfl), [(Value.slice none 0 0), (Value.int .i64 check_1)], ⟨rfl, rfl, trivial⟩, hs15.ext, ?_⟩
    exact Vr.eq (a := (vT2 (vC (rSl (rInt .i64))) (vI .i64))) (x := (([] : List Int), check_1)) (mkT2 (mkC (mk_sl SlR.nil_)) ⟨rfl, r_y13⟩) (Option.some.inj hm)
  ·
    replace hm := bif_f hm hc14
    refine Wp_skip ?_
    refine Wp_seq ?_
    refine Wp_drawR (g0 := []) (m := 4) (fl := []) (TS_inv hs11) (.inl rfl) rfl (by decide +kernel) ?_  -- 4
    refine Dw_eq (Value.agg [(Value.int .i64 r_.slots), (Value.slice a_r__owners r_.owners.length c_r__owners), (Value.slice a_r__costs r_.costs.length c_r__costs)].toArray) (fun ρ17 w18 g hle hi ht => ?_) ?_
    ·
      obtain ⟨-, hst, -⟩ := hle
      have hsn := (Step.nx hi).1
      refine StepOp_plain (op_loadA (cs := [(Value.int .i64 r_.slots), (Value.slice a_r__owners r_.owners.length c_r__owners), (Value.slice a_r__costs r_.costs.length c_r__costs)]) (vs := [(Value.int .i64 r_.slots), (Value.slice a_r__owners r_.owners.length c_r__owners), (Value.slice a_r__costs r_.costs.length c_r__costs)]) (i := 0) ty25 hsn (ht 2 rfl) rfl rfl rfl ?_)
      exact Goes.same hi rfl
    refine Dw_eq (Value.agg [(Value.int .i64 r_.slots), (Value.slice a_r__owners r_.owners.length c_r__owners), (Value.slice a_r__costs r_.costs.length c_r__costs)].toArray) (fun ρ20 w21 g hle hi ht => ?_) ?_
    ·
      obtain ⟨-, hst, -⟩ := hle
      have hsn := (Step.nx hi).1
      refine StepOp_plain (op_loadA (cs := [(Value.int .i64 r_.slots), (Value.slice a_r__owners r_.owners.length c_r__owners), (Value.slice a_r__costs r_.costs.length c_r__costs)]) (vs := [(Value.int .i64 r_.slots), (Value.slice a_r__owners r_.owners.length c_r__owners), (Value.slice a_r__costs r_.costs.length c_r__costs)]) (i := 0) ty25 hsn (ht 2 rfl) rfl rfl rfl ?_)
      exact Goes.same hi rfl
    replace hm := bd hm; obtain ⟨own_1, hv26, hm⟩ := hm
    refine Dw_op (VD O [(some b1, Obj.cells [(Value.int .i64 r_.slots), (Value.slice a_r__owners r_.owners.length c_r__owners), (Value.slice a_r__costs r_.costs.length c_r__costs)].toArray 25)] (vC (rSl (rInt .i64))) own_1) (VD.stab _ _) (fun ρ23 w24 g hle hi ht => ?_) ?_
    ·
      obtain ⟨-, hst, -⟩ := hle
      replace f_r__owners := f_r__owners.step hst
      replace f_r__costs := f_r__costs.step hst
      refine StepOp_plain (op_call Try.call42 (c42_coalition_own (O := ks (ents g ++ [(some b1, Obj.cells [(Value.int .i64 r_.slots), (Value.slice a_r__owners r_.owners.length c_r__owners), (Value.slice a_r__costs r_.costs.length c_r__costs)].toArray 25)]) O) (r_ := r_) hi.ltw r_r__slots f_r__owners f_r__costs hv26) (by simp only [List.map, Array.toList, (show ev _ (.tmp 14) = _ from (ht 14 rfl))] <;> rfl) ?_)
      rintro v27 w28 ⟨hx29, h30⟩
      exact Goes.call hi hx29 h30
    refine Dw_eq (Value.slice a_slots slots.length c_slots) (fun ρ32 w33 g hle hi ht => ?_) ?_
    ·
      obtain ⟨-, hst, -⟩ := hle
      refine StepOp_plain (op_move (v := (Value.slice a_slots slots.length c_slots)) (ht 1 rfl) ?_)
      exact Goes.same hi rfl
    refine Dw_nil fun w39 g40 hl41 hi42 => ?_
    obtain ⟨-, hst43, -⟩ := hl41
    obtain ⟨hs45, p44⟩ := Step.nx hi42
    rintro _ rfl
    rintro v46 h47
    replace h47 : Vr.vd (vC (rSl (rInt .i64))) _ _ _ _ := h47
    obtain ⟨a_y48, c_y48, rfl, f_y48⟩ := un_sl h47
    rintro _ rfl
    rintro _ rfl
    have p49 : Step (ks [(some b1, Obj.cells [(Value.int .i64 r_.slots), (Value.slice a_r__owners r_.owners.length c_r__owners), (Value.slice a_r__costs r_.costs.length c_r__costs)].toArray 25)] O) w8 (ks [(some b1, Obj.cells [(Value.int .i64 r_.slots), (Value.slice a_r__owners r_.owners.length c_r__owners), (Value.slice a_r__costs r_.costs.length c_r__costs)].toArray 25)] O) w39 := hst43.trans p44
    replace f_y48 := f_y48.step p44
    replace f_r__owners := f_r__owners.step p49
    replace f_r__costs := f_r__costs.step p49
    replace f_slots := f_slots.step p49
    clear p49 hs11
    replace hm := bd hm; obtain ⟨costs_1, hv50, hm⟩ := hm
    refine Rg_op rfl (op_call Try.call41 (g41_coalition_costs (r_ := r_) (flights := own_1) (slots := slots) hs45.ltw r_r__slots f_r__owners f_r__costs f_y48 f_slots hv50) rfl ?_)
    rintro _ w52 ⟨hx53, a56, c57, k58, o59, rfl, hk60, f61⟩
    obtain ⟨hs55, p62⟩ := hs45.callG (o := o59) hx53 hk60
    rw [← ks_cons (o := o59)] at f61
    replace f_r__owners := f_r__owners.step p62
    replace f_r__costs := f_r__costs.step p62
    replace f_slots := f_slots.step p62
    replace f_y48 := f_y48.step p62
    clear p62 hs45
    refine Rg_op rfl (op_assign (v := (Value.slice a56 costs_1.length c57)) rfl ?_)
    refine Rg_op rfl (op_assign (v := (Value.int .i64 0)) rfl ?_)
    refine Rg_nil ?_
    refine Wp_ret ?_
    obtain ⟨hs65, p66, f64⟩ := Gs.publish (i := 0) hs55 rfl f61
    replace f_r__owners := f_r__owners.step p66
    replace f_r__costs := f_r__costs.step p66
    replace f_slots := f_slots.step p66
    replace f_y48 := f_y48.step p66
    clear p66 hs55
    have hz := step_all hs65
    replace f_r__owners := f_r__owners.step hz
    replace f_r__costs := f_r__costs.step hz
    replace f_slots := f_slots.step hz
    replace f_y48 := f_y48.step hz
    replace f64 := f64.step hz
    refine ⟨_, (show Closes [] _ _ from rfl), [(Value.slice a56 costs_1.length c57), (Value.int .i64 0)], ⟨rfl, rfl, trivial⟩, hs65.ext, ?_⟩
    exact Vr.eq (a := (vT2 (vC (rSl (rInt .i64))) (vI .i64))) (x := (costs_1, 0)) (mkT2 (mkC (mk_sl f64)) ⟨rfl, (show InK .i64 0 from by decide)⟩) (Option.some.inj hm)

end Go.Fx


set_option linter.unusedVariables false
set_option linter.unusedSimpArgs false
set_option maxRecDepth 100000
set_option maxHeartbeats 0
namespace Go.Fx
open Go Go.RowKit Go.Proofs
def m23_coalition_Worse_B0 (costs_1 : (List Int)) (costs_2 : (List Int)) (sf140 : (List Int) → Int → Option ((List Int) × Int)) (l_1 : List Int) (v_1 : Int) : Option ((List Int) × Int) :=
  bif (decide (v_1 < (costs_2.length : Int))) then
    ck ((0 : Int) ≤ v_1 ∧ v_1 < (costs_2.length : Int)) <|
    ck ((0 : Int) ≤ v_1 ∧ v_1 < (costs_1.length : Int)) <|
    bif (decide ((costs_1.getD v_1.toNat default) < (costs_2.getD v_1.toNat default))) then
      ck ((l_1.length + [v_1].length) * 8 ≤ 140737488355328) <|
      sf140 (l_1 ++ [v_1]) (IntKind.wrap .i64 (v_1 + 1))
    else
      sf140 l_1 (IntKind.wrap .i64 (v_1 + 1))
  else
    some (l_1, 0)

def m23_coalition_Worse (r_ : XRound) (slots : List Int) : Option ((List Int) × Int) :=
  (m39_coalition_check r_ slots).bind fun check_1 =>
  bif (decide (check_1 ≠ 0)) then
    some (([] : List Int), check_1)
  else
    (m42_coalition_own r_).bind fun own_1 =>
    (m42_coalition_own r_).bind fun own_2 =>
    (m41_coalition_costs r_ own_1 own_2).bind fun costs_1 =>
    (m42_coalition_own r_).bind fun own_3 =>
    (m41_coalition_costs r_ own_3 slots).bind fun costs_2 =>
    loop2 (m23_coalition_Worse_B0 costs_1 costs_2) (((costs_2.length : Int) - 0).toNat + 1) ([] : List Int) 0

theorem c23_coalition_Worse {w : World} {O : List Nat} {r_ : XRound} {slots : List Int} {a_r__owners : Option Addr} {c_r__owners : Nat} {a_r__costs : Option Addr} {c_r__costs : Nat} {a_slots : Option Addr} {c_slots : Nat} (hO : ∀ k ∈ O, k < w.heap.size) (r_r__slots : InK .i64 r_.slots) (f_r__owners : SlR (rInt .i64) w O a_r__owners c_r__owners r_.owners) (f_r__costs : SlR (rSl (rInt .i64)) w O a_r__costs c_r__costs r_.costs) (f_slots : SlR (rInt .i64) w O a_slots c_slots slots) {x : (List Int) × Int} (hm : m23_coalition_Worse r_ slots = some x) :
    Ok Try.prog 23 [(Value.agg [(Value.int .i64 r_.slots), (Value.slice a_r__owners r_.owners.length c_r__owners), (Value.slice a_r__costs r_.costs.length c_r__costs)].toArray), (Value.slice a_slots slots.length c_slots)] w O (vT2 (vC (rSl (rInt .i64))) (vI .i64)) x := by
  unfold m23_coalition_Worse at hm
  refine Fn_of_Wp (n := 45) (xs := [.tmp 4, .tmp 5]) Try.func23 rfl Try.ntmps23 Try.results23 rfl ?_
  have hs := St.start hO
  refine Wp_seq ?_
  refine Wp_region ?_  -- 0 coalition.go:80
  refine Rg_op rfl (op_box (cs := [(Value.int .i64 r_.slots), (Value.slice a_r__owners r_.owners.length c_r__owners), (Value.slice a_r__costs r_.costs.length c_r__costs)]) hs rfl rfl ?_)
  intro b1 w2 _ p3 hs4
  replace f_r__owners := f_r__owners.step p3
  replace f_r__costs := f_r__costs.step p3
  replace f_slots := f_slots.step p3
  clear p3
  refine Rg_op rfl (op_assign (v := (Value.slice none 0 0)) rfl ?_)
  refine Rg_op rfl (op_assign (v := (Value.int .i64 0)) rfl ?_)
  refine Rg_nil ?_
  refine Wp_seq ?_
  refine Wp_seq ?_
  refine Wp_region ?_  -- 1 coalition.go:81
  refine Rg_op rfl (op_loadA (cs := [(Value.int .i64 r_.slots), (Value.slice a_r__owners r_.owners.length c_r__owners), (Value.slice a_r__costs r_.costs.length c_r__costs)]) (vs := [(Value.int .i64 r_.slots), (Value.slice a_r__owners r_.owners.length c_r__owners), (Value.slice a_r__costs r_.costs.length c_r__costs)]) (i := 0) ty25 hs4 rfl rfl rfl rfl ?_)
  refine Rg_op rfl (op_move (v := (Value.slice a_slots slots.length c_slots)) rfl ?_)
  replace hm := bd hm; obtain ⟨check_1, hv6, hm⟩ := hm
  refine Rg_op rfl (op_call Try.call39 (c39_coalition_check (r_ := r_) (slots := slots) hs4.ltw r_r__slots f_r__owners f_r__costs f_slots hv6) rfl ?_)
  rintro v7 w8 ⟨hx9, h10⟩
  have hs11 := hs4.call hx9
  have p12 := Step.ext (O := ks [(some b1, Obj.cells [(Value.int .i64 r_.slots), (Value.slice a_r__owners r_.owners.length c_r__owners), (Value.slice a_r__costs r_.costs.length c_r__costs)].toArray 25)] O) hx9
  clear hx9
  replace f_r__owners := f_r__owners.step p12
  replace f_r__costs := f_r__costs.step p12
  replace f_slots := f_slots.step p12
  clear p12 hs4
  obtain ⟨rfl, r_y13⟩ := h10
  refine Rg_op rfl (op_assign (v := (Value.int .i64 check_1)) rfl ?_)
  refine Rg_nil ?_
  refine Wp_seq ?_
  refine Wp_region ?_  -- 2 coalition.go:81
  refine Rg_op rfl (op_move (v := (Value.int .i64 check_1)) rfl ?_)
  refine Rg_op rfl (op_neq rfl rfl ?_)
  refine Rg_nil ?_
  refine Wp_cond rfl (fun hc14 => ?_) (fun hc14 => ?_)
  ·
    replace hm := bif_t hm hc14
    refine Wp_seq ?_
    obtain ⟨hs15, p16⟩ := hs11.sub (bs' := []) (.cons _ List.Sublist.slnil)
    clear f_r__owners f_r__costs f_slots
    clear p16 hs11
    refine Wp_region ?_  -- 3 coalition.go:82
    refine Rg_op rfl (op_move (v := (Value.int .i64 check_1)) rfl ?_)
    refine Rg_op rfl (op_assign (v := (Value.slice none 0 0)) rfl ?_)
    refine Rg_op rfl (op_assign (v := (Value.int .i64 check_1)) rfl ?_)
    refine Rg_nil ?_
    refine Wp_ret ?_
    have hz := step_all hs15
    refine ⟨_, (show Closes [] _ _ from rfl), [(Value.slice none 0 0), (Value.int .i64 check_1)], ⟨rfl, rfl, trivial⟩, hs15.ext, ?_⟩
    exact Vr.eq (a := (vT2 (vC (rSl (rInt .i64))) (vI .i64))) (x := (([] : List Int), check_1)) (mkT2 (mkC (mk_sl SlR.nil_)) ⟨rfl, r_y13⟩) (Option.some.inj hm)
  ·
    replace hm := bif_f hm hc14
    refine Wp_skip ?_
    refine Wp_seq ?_
    refine Wp_drawR (g0 := []) (m := 5) (fl := []) (TS_inv hs11) (.inl rfl) rfl (by decide +kernel) ?_  -- 4
    refine Dw_eq (Value.agg [(Value.int .i64 r_.slots), (Value.slice a_r__owners r_.owners.length c_r__owners), (Value.slice a_r__costs r_.costs.length c_r__costs)].toArray) (fun ρ17 w18 g hle hi ht => ?_) ?_
    ·
      obtain ⟨-, hst, -⟩ := hle
      have hsn := (Step.nx hi).1
      refine StepOp_plain (op_loadA (cs := [(Value.int .i64 r_.slots), (Value.slice a_r__owners r_.owners.length c_r__owners), (Value.slice a_r__costs r_.costs.length c_r__costs)]) (vs := [(Value.int .i64 r_.slots), (Value.slice a_r__owners r_.owners.length c_r__owners), (Value.slice a_r__costs r_.costs.length c_r__costs)]) (i := 0) ty25 hsn (ht 2 rfl) rfl rfl rfl ?_)
      exact Goes.same hi rfl
    refine Dw_eq (Value.agg [(Value.int .i64 r_.slots), (Value.slice a_r__owners r_.owners.length c_r__owners), (Value.slice a_r__costs r_.costs.length c_r__costs)].toArray) (fun ρ20 w21 g hle hi ht => ?_) ?_
    ·
      obtain ⟨-, hst, -⟩ := hle
      have hsn := (Step.nx hi).1
      refine StepOp_plain (op_loadA (cs := [(Value.int .i64 r_.slots), (Value.slice a_r__owners r_.owners.length c_r__owners), (Value.slice a_r__costs r_.costs.length c_r__costs)]) (vs := [(Value.int .i64 r_.slots), (Value.slice a_r__owners r_.owners.length c_r__owners), (Value.slice a_r__costs r_.costs.length c_r__costs)]) (i := 0) ty25 hsn (ht 2 rfl) rfl rfl rfl ?_)
      exact Goes.same hi rfl
    replace hm := bd hm; obtain ⟨own_1, hv26, hm⟩ := hm
    refine Dw_op (VD O [(some b1, Obj.cells [(Value.int .i64 r_.slots), (Value.slice a_r__owners r_.owners.length c_r__owners), (Value.slice a_r__costs r_.costs.length c_r__costs)].toArray 25)] (vC (rSl (rInt .i64))) own_1) (VD.stab _ _) (fun ρ23 w24 g hle hi ht => ?_) ?_
    ·
      obtain ⟨-, hst, -⟩ := hle
      replace f_r__owners := f_r__owners.step hst
      replace f_r__costs := f_r__costs.step hst
      refine StepOp_plain (op_call Try.call42 (c42_coalition_own (O := ks (ents g ++ [(some b1, Obj.cells [(Value.int .i64 r_.slots), (Value.slice a_r__owners r_.owners.length c_r__owners), (Value.slice a_r__costs r_.costs.length c_r__costs)].toArray 25)]) O) (r_ := r_) hi.ltw r_r__slots f_r__owners f_r__costs hv26) (by simp only [List.map, Array.toList, (show ev _ (.tmp 17) = _ from (ht 17 rfl))] <;> rfl) ?_)
      rintro v27 w28 ⟨hx29, h30⟩
      exact Goes.call hi hx29 h30
    refine Dw_eq (Value.agg [(Value.int .i64 r_.slots), (Value.slice a_r__owners r_.owners.length c_r__owners), (Value.slice a_r__costs r_.costs.length c_r__costs)].toArray) (fun ρ32 w33 g hle hi ht => ?_) ?_
    ·
      obtain ⟨-, hst, -⟩ := hle
      have hsn := (Step.nx hi).1
      refine StepOp_plain (op_loadA (cs := [(Value.int .i64 r_.slots), (Value.slice a_r__owners r_.owners.length c_r__owners), (Value.slice a_r__costs r_.costs.length c_r__costs)]) (vs := [(Value.int .i64 r_.slots), (Value.slice a_r__owners r_.owners.length c_r__owners), (Value.slice a_r__costs r_.costs.length c_r__costs)]) (i := 0) ty25 hsn (ht 2 rfl) rfl rfl rfl ?_)
      exact Goes.same hi rfl
    replace hm := bd hm; obtain ⟨own_2, hv38, hm⟩ := hm
    refine Dw_op (VD O [(some b1, Obj.cells [(Value.int .i64 r_.slots), (Value.slice a_r__owners r_.owners.length c_r__owners), (Value.slice a_r__costs r_.costs.length c_r__costs)].toArray 25)] (vC (rSl (rInt .i64))) own_2) (VD.stab _ _) (fun ρ35 w36 g hle hi ht => ?_) ?_
    ·
      obtain ⟨-, hst, -⟩ := hle
      replace f_r__owners := f_r__owners.step hst
      replace f_r__costs := f_r__costs.step hst
      refine StepOp_plain (op_call Try.call42 (c42_coalition_own (O := ks (ents g ++ [(some b1, Obj.cells [(Value.int .i64 r_.slots), (Value.slice a_r__owners r_.owners.length c_r__owners), (Value.slice a_r__costs r_.costs.length c_r__costs)].toArray 25)]) O) (r_ := r_) hi.ltw r_r__slots f_r__owners f_r__costs hv38) (by simp only [List.map, Array.toList, (show ev _ (.tmp 19) = _ from (ht 19 rfl))] <;> rfl) ?_)
      rintro v39 w40 ⟨hx41, h42⟩
      exact Goes.call hi hx41 h42
    refine Dw_nil fun w48 g49 hl50 hi51 => ?_
    obtain ⟨-, hst52, -⟩ := hl50
    obtain ⟨hs54, p53⟩ := Step.nx hi51
    rintro v55 h56
    replace h56 : Vr.vd (vC (rSl (rInt .i64))) _ _ _ _ := h56
    obtain ⟨a_y57, c_y57, rfl, f_y57⟩ := un_sl h56
    rintro _ rfl
    rintro v58 h59
    replace h59 : Vr.vd (vC (rSl (rInt .i64))) _ _ _ _ := h59
    obtain ⟨a_y60, c_y60, rfl, f_y60⟩ := un_sl h59
    rintro _ rfl
    rintro _ rfl
    have p61 : Step (ks [(some b1, Obj.cells [(Value.int .i64 r_.slots), (Value.slice a_r__owners r_.owners.length c_r__owners), (Value.slice a_r__costs r_.costs.length c_r__costs)].toArray 25)] O) w8 (ks [(some b1, Obj.cells [(Value.int .i64 r_.slots), (Value.slice a_r__owners r_.owners.length c_r__owners), (Value.slice a_r__costs r_.costs.length c_r__costs)].toArray 25)] O) w48 := hst52.trans p53
    replace f_y57 := f_y57.step p53
    replace f_y60 := f_y60.step p53
    replace f_r__owners := f_r__owners.step p61
    replace f_r__costs := f_r__costs.step p61
    replace f_slots := f_slots.step p61
    clear p61 hs11
    replace hm := bd hm; obtain ⟨costs_1, hv62, hm⟩ := hm
    refine Rg_op rfl (op_call Try.call41 (g41_coalition_costs (r_ := r_) (flights := own_1) (slots := own_2) hs54.ltw r_r__slots f_r__owners f_r__costs f_y60 f_y57 hv62) rfl ?_)
    rintro _ w64 ⟨hx65, a68, c69, k70, o71, rfl, hk72, f73⟩
    obtain ⟨hs67, p74⟩ := hs54.callG (o := o71) hx65 hk72
    rw [← ks_cons (o := o71)] at f73
    replace f_r__owners := f_r__owners.step p74
    replace f_r__costs := f_r__costs.step p74
    replace f_slots := f_slots.step p74
    replace f_y57 := f_y57.step p74
    replace f_y60 := f_y60.step p74
    clear p74 hs54
    refine Rg_op rfl (op_assign (v := (Value.slice a68 costs_1.length c69)) rfl ?_)
    refine Rg_nil ?_
    refine Wp_seq ?_
    refine Wp_seq ?_
    clear f_y57 f_y60
    refine Wp_drawR (g0 := []) (m := 7) (fl := []) (TS_inv hs67) (.inl rfl) rfl (by decide +kernel) ?_  -- 5
    refine Dw_eq (Value.agg [(Value.int .i64 r_.slots), (Value.slice a_r__owners r_.owners.length c_r__owners), (Value.slice a_r__costs r_.costs.length c_r__costs)].toArray) (fun ρ76 w77 g hle hi ht => ?_) ?_
    ·
      obtain ⟨-, hst, -⟩ := hle
      have hsn := (Step.nx hi).1
      refine StepOp_plain (op_loadA (cs := [(Value.int .i64 r_.slots), (Value.slice a_r__owners r_.owners.length c_r__owners), (Value.slice a_r__costs r_.costs.length c_r__costs)]) (vs := [(Value.int .i64 r_.slots), (Value.slice a_r__owners r_.owners.length c_r__owners), (Value.slice a_r__costs r_.costs.length c_r__costs)]) (i := 1) ty25 hsn (ht 2 rfl) rfl rfl rfl ?_)
      exact Goes.same hi rfl
    refine Dw_eq (Value.agg [(Value.int .i64 r_.slots), (Value.slice a_r__owners r_.owners.length c_r__owners), (Value.slice a_r__costs r_.costs.length c_r__costs)].toArray) (fun ρ79 w80 g hle hi ht => ?_) ?_
    ·
      obtain ⟨-, hst, -⟩ := hle
      have hsn := (Step.nx hi).1
      refine StepOp_plain (op_loadA (cs := [(Value.int .i64 r_.slots), (Value.slice a_r__owners r_.owners.length c_r__owners), (Value.slice a_r__costs r_.costs.length c_r__costs)]) (vs := [(Value.int .i64 r_.slots), (Value.slice a_r__owners r_.owners.length c_r__owners), (Value.slice a_r__costs r_.costs.length c_r__costs)]) (i := 1) ty25 hsn (ht 2 rfl) rfl rfl rfl ?_)
      exact Goes.same hi rfl
    replace hm := bd hm; obtain ⟨own_3, hv85, hm⟩ := hm
    refine Dw_op (VD O [(k70, o71), (some b1, Obj.cells [(Value.int .i64 r_.slots), (Value.slice a_r__owners r_.owners.length c_r__owners), (Value.slice a_r__costs r_.costs.length c_r__costs)].toArray 25)] (vC (rSl (rInt .i64))) own_3) (VD.stab _ _) (fun ρ82 w83 g hle hi ht => ?_) ?_
    ·
      obtain ⟨-, hst, -⟩ := hle
      replace f_r__owners := f_r__owners.step hst
      replace f_r__costs := f_r__costs.step hst
      refine StepOp_plain (op_call Try.call42 (c42_coalition_own (O := ks (ents g ++ [(k70, o71), (some b1, Obj.cells [(Value.int .i64 r_.slots), (Value.slice a_r__owners r_.owners.length c_r__owners), (Value.slice a_r__costs r_.costs.length c_r__costs)].toArray 25)]) O) (r_ := r_) hi.ltw r_r__slots f_r__owners f_r__costs hv85) (by simp only [List.map, Array.toList, (show ev _ (.tmp 23) = _ from (ht 23 rfl))] <;> rfl) ?_)
      rintro v86 w87 ⟨hx88, h89⟩
      exact Goes.call hi hx88 h89
    refine Dw_eq (Value.slice a_slots slots.length c_slots) (fun ρ91 w92 g hle hi ht => ?_) ?_
    ·
      obtain ⟨-, hst, -⟩ := hle
      refine StepOp_plain (op_move (v := (Value.slice a_slots slots.length c_slots)) (ht 1 rfl) ?_)
      exact Goes.same hi rfl
    replace hm := bd hm; obtain ⟨costs_2, hv100, hm⟩ := hm
    refine Dw_op (VD O [(k70, o71), (some b1, Obj.cells [(Value.int .i64 r_.slots), (Value.slice a_r__owners r_.owners.length c_r__owners), (Value.slice a_r__costs r_.costs.length c_r__costs)].toArray 25)] (vC (rSl (rInt .i64))) costs_2) (VD.stab _ _) (fun ρ94 w95 g hle hi ht => ?_) ?_
    ·
      obtain ⟨-, hst, -⟩ := hle
      replace f_r__owners := f_r__owners.step hst
      replace f_r__costs := f_r__costs.step hst
      replace f_slots := f_slots.step hst
      have h97 : Vr.vd (vC (rSl (rInt .i64))) _ _ _ _ := ht 24 rfl
      obtain ⟨a_y99, c_y99, q98, f_y99⟩ := un_sl h97
      refine StepOp_plain (op_call Try.call41 (c41_coalition_costs (O := ks (ents g ++ [(k70, o71), (some b1, Obj.cells [(Value.int .i64 r_.slots), (Value.slice a_r__owners r_.owners.length c_r__owners), (Value.slice a_r__costs r_.costs.length c_r__costs)].toArray 25)]) O) (r_ := r_) (flights := own_3) (slots := slots) hi.ltw r_r__slots f_r__owners f_r__costs f_y99 f_slots hv100) (by simp only [List.map, Array.toList, (show ev _ (.tmp 22) = _ from (ht 22 rfl)), (show ev _ (.tmp 24) = _ from q98), (show ev _ (.tmp 25) = _ from (ht 25 rfl))] <;> rfl) ?_)
      rintro v101 w102 ⟨hx103, h104⟩
      exact Goes.call hi hx103 h104
    refine Dw_op (VD O [(k70, o71), (some b1, Obj.cells [(Value.int .i64 r_.slots), (Value.slice a_r__owners r_.owners.length c_r__owners), (Value.slice a_r__costs r_.costs.length c_r__costs)].toArray 25)] (vI .i64) (costs_2.length : Int)) (VD.stab _ _) (fun ρ106 w107 g hle hi ht => ?_) ?_
    ·
      obtain ⟨-, hst, -⟩ := hle
      have h109 : Vr.vd (vC (rSl (rInt .i64))) _ _ _ _ := ht 26 rfl
      obtain ⟨a_y111, c_y111, q110, f_y111⟩ := un_sl h109
      refine StepOp_plain (op_len Try.underlying22 q110 ?_)
      exact Goes.same hi (show Vr.vd (vI .i64) _ _ _ _ from ⟨rfl, (inK_len f_y111)⟩)
    refine Dw_eq (Value.int .i64 0) (fun ρ112 w113 g hle hi ht => ?_) ?_
    ·
      obtain ⟨-, hst, -⟩ := hle
      refine StepOp_plain (op_move (v := (Value.int .i64 0)) rfl ?_)
      exact Goes.same hi rfl
    refine Dw_nil fun w119 g120 hl121 hi122 => ?_
    obtain ⟨-, hst123, -⟩ := hl121
    obtain ⟨hs125, p124⟩ := Step.nx hi122
    rintro _ rfl
    rintro v126 h127
    replace h127 : Vr.vd (vI .i64) _ _ _ _ := h127
    obtain ⟨rfl, r_y128⟩ := h127
    rintro v129 h130
    replace h130 : Vr.vd (vC (rSl (rInt .i64))) _ _ _ _ := h130
    obtain ⟨a_y131, c_y131, rfl, f_y131⟩ := un_sl h130
    rintro _ rfl
    rintro v132 h133
    replace h133 : Vr.vd (vC (rSl (rInt .i64))) _ _ _ _ := h133
    obtain ⟨a_y134, c_y134, rfl, f_y134⟩ := un_sl h133
    rintro _ rfl
    rintro _ rfl
    have p135 : Step (ks [(k70, o71), (some b1, Obj.cells [(Value.int .i64 r_.slots), (Value.slice a_r__owners r_.owners.length c_r__owners), (Value.slice a_r__costs r_.costs.length c_r__costs)].toArray 25)] O) w64 (ks [(k70, o71), (some b1, Obj.cells [(Value.int .i64 r_.slots), (Value.slice a_r__owners r_.owners.length c_r__owners), (Value.slice a_r__costs r_.costs.length c_r__costs)].toArray 25)] O) w119 := hst123.trans p124
    replace f_y131 := f_y131.step p124
    replace f_y134 := f_y134.step p124
    replace f_r__owners := f_r__owners.step p135
    replace f_r__costs := f_r__costs.step p135
    replace f_slots := f_slots.step p135
    replace f73 := f73.step p135
    clear p135 hs67
    refine Rg_nil ?_
    refine Wp_block ?_
    refine Wp_reset [] [(4, (Value.slice none 0 0)), (7, (Value.slice a68 costs_1.length c69)), (26, (Value.slice a_y131 costs_2.length c_y131)), (27, (Value.int .i64 (costs_2.length : Int))), (28, (Value.int .i64 0))] rfl ⟨rfl, rfl, rfl, rfl, rfl, trivial⟩ fun ξ139 => ?_
    have hs144 := hs125.ghost (Obj.cells #[] 3)
    refine Wp_loopM [4, 8, 9, 28, 29, 30, 31, 32, 33, 34, 35, 36, 37, 38, 39, 40, 41, 42, 43] (fun m fr w' => ∃ (l_1 : List Int) (v_1 : Int) (a_g137 : Option Addr) (c_g137 : Nat) (k_g137 : Option Nat) (o_g137 : Obj) (Ebs : Ents), Ebs = [(k_g137, o_g137), (k70, o71), (some b1, Obj.cells [(Value.int .i64 r_.slots), (Value.slice a_r__owners r_.owners.length c_r__owners), (Value.slice a_r__costs r_.costs.length c_r__costs)].toArray 25)] ∧ fr [] [(4, (Value.slice a_g137 l_1.length c_g137)), (28, (Value.int .i64 v_1))] ∧ Step (ks [(none, (Obj.cells #[] 3)), (k70, o71), (some b1, Obj.cells [(Value.int .i64 r_.slots), (Value.slice a_r__owners r_.owners.length c_r__owners), (Value.slice a_r__costs r_.costs.length c_r__costs)].toArray 25)] O) w119 (ks Ebs O) w' ∧ St ⟨w, [], []⟩ O w' Ebs ∧ Gs (rInt .i64) 3 w' (ks Ebs O) a_g137 c_g137 l_1 k_g137 o_g137 ∧ InK .i64 v_1 ∧ loop2 (m23_coalition_Worse_B0 costs_1 costs_2) m l_1 v_1 = some x) (((costs_2.length : Int) - 0).toNat + 1) ⟨([] : List Int), 0, none, 0, none, (Obj.cells #[] 3), _, rfl, ⟨Out.refl _ _, rfl, rfl, rfl, trivial⟩, Step.refl _ _, hs144, Gs.nil_, (show InK .i64 0 from by decide), hm⟩ ?_ ?_
    · rintro _ _ ⟨_, _, _, _, _, _, _, _, _, _, _, _, _, hm⟩; exact loop2_z hm
    · rintro m143 K142 hK142 ρ150 w146 ⟨l_1, v_1, a_g137, c_g137, k_g137, o_g137, Ebs, hEbs, hfr149, hst148, hs147, f_g137, r_y138, hm⟩
      obtain ⟨sf140, hsf141, hm⟩ := loop2_s hm; unfold m23_coalition_Worse_B0 at hm
      subst hEbs; rw [hfr149.eq]; clear hfr149
      replace f_r__owners := f_r__owners.step hst148
      replace f_r__costs := f_r__costs.step hst148
      replace f_slots := f_slots.step hst148
      replace f73 := f73.step hst148
      replace f_y131 := f_y131.step hst148
      replace f_y134 := f_y134.step hst148
      have ch151 := hst148
      refine Wp_seq ?_
      clear f_slots f_y134
      refine Wp_region ?_  -- 6 coalition.go:85
      refine Rg_op rfl (op_lss rfl rfl ?_)
      refine Rg_nil ?_
      refine Wp_seq ?_
      refine Wp_cond rfl (fun hc152 => ?_) (fun hc152 => ?_)
      ·
        replace hm := bif_t hm hc152
        refine Wp_skip ?_
        refine Wp_seq ?_
        refine Wp_block ?_
        refine Wp_seq ?_
        refine Wp_region ?_  -- 7 coalition.go:85
        refine Rg_op rfl (op_move (v := (Value.int .i64 v_1)) rfl ?_)
        replace hm := ck_some hm; obtain ⟨hc153, hm⟩ := hm
        refine Rg_op rfl (op_indexAddr (q := (rInt .i64)) ty22 ty3 rfl rfl f_y131 rfl hc153.1 hc153.2 ?_)
        intro p154 f155
        refine Rg_op rfl (op_loadP ty3 rfl f155 rfl ?_)
        intro v156 h157
        obtain ⟨rfl, r_y158⟩ := un_int h157
        refine Rg_op rfl (op_assign (v := (Value.int .i64 v_1)) rfl ?_)
        refine Rg_op rfl (op_assign (v := (Value.int .i64 (costs_2.getD v_1.toNat default))) rfl ?_)
        refine Rg_nil ?_
        refine Wp_seq ?_
        clear f155
        refine Wp_region ?_  -- 8 coalition.go:86
        refine Rg_op rfl (op_move (v := (Value.int .i64 (costs_2.getD v_1.toNat default))) rfl ?_)
        refine Rg_op rfl (op_move (v := (Value.slice a68 costs_1.length c69)) rfl ?_)
        refine Rg_op rfl (op_move (v := (Value.int .i64 v_1)) rfl ?_)
        replace hm := ck_some hm; obtain ⟨hc159, hm⟩ := hm
        refine Rg_op rfl (op_indexAddrG ty22 ty3 rfl rfl f73 hc159 ?_)
        rintro b160 rfl rfl
        refine Rg_op rfl (op_loadG (i := 1) ty3 rfl hs147 rfl rfl f73 hc159 ?_)
        intro v161 h162
        obtain ⟨rfl, r_y163⟩ := un_int h162
        refine Rg_op rfl (op_gtr rfl rfl ?_)
        refine Rg_nil ?_
        refine Wp_cond rfl (fun hc164 => ?_) (fun hc164 => ?_)
        ·
          replace hm := bif_t hm hc164
          refine Wp_region ?_  -- 9 coalition.go:87
          refine Rg_op rfl (op_move (v := (Value.slice a_g137 l_1.length c_g137)) rfl ?_)
          refine Rg_op rfl (op_move (v := (Value.int .i64 v_1)) rfl ?_)
          refine Rg_op rfl (op_buildSlice (cs := [(Value.int .i64 v_1)]) (parts := [(0, .tmp 40)]) ty22 ty3 hs147 (by decide) rfl ?_)
          intro b165 w166 hx169 p167 hs168
          replace f_r__owners := f_r__owners.step p167
          replace f_r__costs := f_r__costs.step p167
          replace f73 := f73.step p167
          replace f_y131 := f_y131.step p167
          replace f_g137 := f_g137.step p167
          replace ch151 := ch151.trans p167
          clear p167 hs147
          replace hm := ck_some hm; obtain ⟨hc171, hm⟩ := hm
          refine Rg_op rfl (op_append (q := (rInt .i64)) (i := 1) (xs := l_1) (ys := [v_1]) (news := [(Value.int .i64 v_1)]) ty22 ty3 rfl (by decide) hs168 rfl rfl f_g137 rfl (Src.owned' (len := 1) (hs168.get (i := 0) rfl) rfl) (show Els (rInt .i64) _ _ [(Value.int .i64 v_1)] [v_1] from ⟨_, _, rfl, (mk_int r_y138), Els.nil⟩) hc171 (by have := hc171; simp only [maxLen]; omega) ?_)
          intro a175 c176 k177 o178 w172 p173 hs174 f179
          replace f_r__owners := f_r__owners.step p173
          replace f_r__costs := f_r__costs.step p173
          replace f73 := f73.step p173
          replace f_y131 := f_y131.step p173
          replace ch151 := ch151.trans p173
          clear p173 hs168
          have hs180 := hs174.drop 0
          replace f_r__owners := f_r__owners.step (Step.drop _ _ [(some b165, Obj.cells [(Value.int .i64 v_1)].toArray 3), (k177, o178), (some b160, o71), (some b1, Obj.cells [(Value.int .i64 r_.slots), (Value.slice a_r__owners r_.owners.length c_r__owners), (Value.slice a_r__costs r_.costs.length c_r__costs)].toArray 25)] 0)
          replace f_r__costs := f_r__costs.step (Step.drop _ _ [(some b165, Obj.cells [(Value.int .i64 v_1)].toArray 3), (k177, o178), (some b160, o71), (some b1, Obj.cells [(Value.int .i64 r_.slots), (Value.slice a_r__owners r_.owners.length c_r__owners), (Value.slice a_r__costs r_.costs.length c_r__costs)].toArray 25)] 0)
          replace f73 := f73.step (Step.drop _ _ [(some b165, Obj.cells [(Value.int .i64 v_1)].toArray 3), (k177, o178), (some b160, o71), (some b1, Obj.cells [(Value.int .i64 r_.slots), (Value.slice a_r__owners r_.owners.length c_r__owners), (Value.slice a_r__costs r_.costs.length c_r__costs)].toArray 25)] 0)
          replace f_y131 := f_y131.step (Step.drop _ _ [(some b165, Obj.cells [(Value.int .i64 v_1)].toArray 3), (k177, o178), (some b160, o71), (some b1, Obj.cells [(Value.int .i64 r_.slots), (Value.slice a_r__owners r_.owners.length c_r__owners), (Value.slice a_r__costs r_.costs.length c_r__costs)].toArray 25)] 0)
          replace f179 := f179.step (Step.drop _ _ [(some b165, Obj.cells [(Value.int .i64 v_1)].toArray 3), (k177, o178), (some b160, o71), (some b1, Obj.cells [(Value.int .i64 r_.slots), (Value.slice a_r__owners r_.owners.length c_r__owners), (Value.slice a_r__costs r_.costs.length c_r__costs)].toArray 25)] 0)
          replace ch151 := ch151.trans (Step.drop _ _ [(some b165, Obj.cells [(Value.int .i64 v_1)].toArray 3), (k177, o178), (some b160, o71), (some b1, Obj.cells [(Value.int .i64 r_.slots), (Value.slice a_r__owners r_.owners.length c_r__owners), (Value.slice a_r__costs r_.costs.length c_r__costs)].toArray 25)] 0)
          clear hs174
          refine Rg_op rfl (op_assign (v := (Value.slice a175 (l_1 ++ [v_1]).length c176)) rfl ?_)
          refine Rg_nil ?_
          refine Wp_region ?_  -- 10 coalition.go:85
          refine Rg_op rfl (op_addw rfl rfl ?_)
          refine Rg_op rfl (op_move (v := (Value.int .i64 (IntKind.wrap .i64 (v_1 + 1)))) rfl ?_)
          refine Rg_nil ?_
          exact hK142 _ _ ⟨(l_1 ++ [v_1]), (IntKind.wrap .i64 (v_1 + 1)), a175, c176, k177, o178, _, rfl, ⟨(by repeat (first | with_reducible exact Out.refl _ _ | refine Out.upd ?_ rfl | refine Out.updL ?_ rfl | refine Out.mix' ?_ rfl | exact Out.refl _ _)), rfl, rfl, rfl, trivial⟩, ch151, hs180, f179, (inK_wrap .i64 _), jnE2 hsf141 hm⟩
        ·
          replace hm := bif_f hm hc164
          refine Wp_skip ?_
          refine Wp_region ?_  -- 10 coalition.go:85
          refine Rg_op rfl (op_addw rfl rfl ?_)
          refine Rg_op rfl (op_move (v := (Value.int .i64 (IntKind.wrap .i64 (v_1 + 1)))) rfl ?_)
          refine Rg_nil ?_
          exact hK142 _ _ ⟨l_1, (IntKind.wrap .i64 (v_1 + 1)), a_g137, c_g137, k_g137, o_g137, _, rfl, ⟨(by repeat (first | with_reducible exact Out.refl _ _ | refine Out.upd ?_ rfl | refine Out.updL ?_ rfl | refine Out.mix' ?_ rfl | exact Out.refl _ _)), rfl, rfl, rfl, trivial⟩, ch151, hs147, f_g137, (inK_wrap .i64 _), jnE2 hsf141 hm⟩
      ·
        replace hm := bif_f hm hc152
        refine Wp_exit ?_
        refine Wp_seq ?_
        obtain ⟨hs181, p182⟩ := hs147.sub (bs' := [(k_g137, o_g137)]) (.cons_cons _ (.cons _ (.cons _ List.Sublist.slnil)))
        clear f_r__owners f_r__costs f73 f_y131
        replace f_g137 := f_g137.step p182
        replace ch151 := ch151.trans p182
        clear p182 hs147
        refine Wp_region ?_  -- 11 coalition.go:90
        refine Rg_op rfl (op_move (v := (Value.slice a_g137 l_1.length c_g137)) rfl ?_)
        refine Rg_op rfl (op_assign (v := (Value.slice a_g137 l_1.length c_g137)) rfl ?_)
        refine Rg_op rfl (op_assign (v := (Value.int .i64 0)) rfl ?_)
        refine Rg_nil ?_
        refine Wp_ret ?_
        obtain ⟨hs184, p185, f183⟩ := Gs.publish (i := 0) hs181 rfl f_g137
        replace ch151 := ch151.trans p185
        clear p185 hs181
        have hz := step_all hs184
        replace f183 := f183.step hz
        refine ⟨_, (show Closes [] _ _ from rfl), [(Value.slice a_g137 l_1.length c_g137), (Value.int .i64 0)], ⟨rfl, rfl, trivial⟩, hs184.ext, ?_⟩
        exact Vr.eq (a := (vT2 (vC (rSl (rInt .i64))) (vI .i64))) (x := (l_1, 0)) (mkT2 (mkC (mk_sl f183)) ⟨rfl, (show InK .i64 0 from by decide)⟩) (Option.some.inj hm)

end Go.Fx

