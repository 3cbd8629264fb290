/- The costs of an airline are the sums of those of its flights, and Worse names the airlines whose costs have grown, for every round and all slots: the law CoalitionSums holds. -/
import Derived.Test.YthakjfdppgdmaaaSum4
import Derived.Test.YthakjfdppgdmaaaRows
import Derived.WalkKit
import Derived.ShutString
set_option linter.unusedVariables false
set_option linter.unusedSimpArgs false
set_option maxRecDepth 100000
set_option maxHeartbeats 0
namespace Go.Fx
open Go Go.RowKit Go.Proofs
def m5_overflightlaw37_CoalitionSums_B1 (r_ : XRound) (slots : List Int) (costs_1 : (List Int) × Int) (worse_1 : (List Int) × Int) (n_1 : Int) (v_3 : Int) (k104 : Int → Option Bool) (sf117 : Int → Int → Int → Option Bool) (sum_1 : Int) (own_1 : Int) (v_4 : Int) : Option Bool :=
  bif (decide (v_4 < (r_.owners.length : Int))) then
    ck ((0 : Int) ≤ v_4 ∧ v_4 < (r_.owners.length : Int)) <|
    bif (decide ((r_.owners.getD v_4.toNat default) = v_3)) then
      ck ((0 : Int) ≤ v_4 ∧ v_4 < (r_.costs.length : Int)) <|
      ck ((0 : Int) ≤ v_4 ∧ v_4 < (slots.length : Int)) <|
      ck ((0 : Int) ≤ (slots.getD v_4.toNat default) ∧ (slots.getD v_4.toNat default) < ((r_.costs.getD v_4.toNat default).length : Int)) <|
      ck ((0 : Int) ≤ v_4 ∧ v_4 < (r_.costs.length : Int)) <|
      ck ((0 : Int) ≤ v_4 ∧ v_4 < ((r_.costs.getD v_4.toNat default).length : Int)) <|
      sf117 (IntKind.wrap .i64 (sum_1 + ((r_.costs.getD v_4.toNat default).getD (slots.getD v_4.toNat default).toNat default))) (IntKind.wrap .i64 (own_1 + ((r_.costs.getD v_4.toNat default).getD v_4.toNat default))) (IntKind.wrap .i64 (v_4 + 1))
    else
      sf117 sum_1 own_1 (IntKind.wrap .i64 (v_4 + 1))
  else
    jn (fun (worse_2 : Bool) =>
      bif worse_2 then
        jn (fun (v_5 : Bool) =>
          bif v_5 then
            some false
          else
            k104 (IntKind.wrap .i64 (n_1 + 1)))
        (fun k237 =>
          ck ((0 : Int) ≤ v_3 ∧ v_3 < (costs_1.1.length : Int)) <|
          bif (decide ((costs_1.1.getD v_3.toNat default) ≠ sum_1)) then
            k237 true
          else
            k237 (!(worse_2 == (decide (own_1 < sum_1)))))
      else
        jn (fun (v_6 : Bool) =>
          bif v_6 then
            some false
          else
            k104 n_1)
        (fun k256 =>
          ck ((0 : Int) ≤ v_3 ∧ v_3 < (costs_1.1.length : Int)) <|
          bif (decide ((costs_1.1.getD v_3.toNat default) ≠ sum_1)) then
            k256 true
          else
            k256 (!(worse_2 == (decide (own_1 < sum_1))))))
    (fun k226 =>
      bif (decide (n_1 < (worse_1.1.length : Int))) then
        ck ((0 : Int) ≤ n_1 ∧ n_1 < (worse_1.1.length : Int)) <|
        k226 (decide ((worse_1.1.getD n_1.toNat default) = v_3))
      else
        k226 false)

def m5_overflightlaw37_CoalitionSums_B0 (r_ : XRound) (slots : List Int) (costs_1 : (List Int) × Int) (worse_1 : (List Int) × Int) (sf91 : Int → Int → Option Bool) (n_1 : Int) (v_3 : Int) : Option Bool :=
  bif (decide (v_3 < 8)) then
    jn (fun (n_2 : Int) =>
      sf91 n_2 (IntKind.wrap .i64 (v_3 + 1)))
    (fun k104 =>
      loop3 (m5_overflightlaw37_CoalitionSums_B1 r_ slots costs_1 worse_1 n_1 v_3 k104) (((r_.owners.length : Int) - 0).toNat + 1) 0 0 0)
  else
    some (decide (n_1 = (worse_1.1.length : Int)))

def m5_overflightlaw37_CoalitionSums (r_ : XRound) (slots : List Int) : Option Bool :=
  (m15_overflightlaw37_sane).bind fun sane_1 =>
  bif (!sane_1) then
    some false
  else
    jn (fun (v_1 : Bool) =>
      bif v_1 then
        some true
      else
        (m18_coalition_Costs r_ slots).bind fun costs_1 =>
        (m23_coalition_Worse r_ slots).bind fun worse_1 =>
        (m24_coalition_Allowed r_ slots).bind fun allowed_1 =>
        bif (decide (costs_1.2 ≠ 0)) then
          bif (decide (worse_1.2 = costs_1.2)) then
            bif (decide (allowed_1.2 = costs_1.2)) then
              some true
            else
              some (!allowed_1.1)
          else
            some false
        else
          jn (fun (v_2 : Bool) =>
            bif v_2 then
              some false
            else
              loop2 (m5_overflightlaw37_CoalitionSums_B0 r_ slots costs_1 worse_1) (((8 : Int) - 0).toNat + 1) 0 0)
          (fun k77 =>
            bif (decide (worse_1.2 ≠ 0)) then
              k77 true
            else
              bif (decide (allowed_1.2 ≠ 0)) then
                k77 true
              else
                bif (!allowed_1.1) then
                  k77 true
                else
                  bif (decide ((costs_1.1.length : Int) ≠ 8)) then
                    k77 true
                  else
                    k77 (decide ((slots.length : Int) ≠ (r_.owners.length : Int)))))
    (fun k19 =>
      (m16_overflightref37_Few r_).bind fun few_1 =>
      bif (!few_1) then
        k19 true
      else
        k19 (decide (20 < (slots.length : Int))))

theorem c5_overflightlaw37_CoalitionSums {w : World} {O : List Nat} {r_ : XRound} {slots : List Int} {a_r__owners : Option Addr} {c_r__owners : Nat} {a_r__costs : Option Addr} {c_r__costs : Nat} {a_slots : Option Addr} {c_slots : Nat} (hO : ∀ k ∈ O, k < w.heap.size) (r_r__slots : InK .i64 r_.slots) (f_r__owners : SlR (rInt .i64) w O a_r__owners c_r__owners r_.owners) (f_r__costs : SlR (rSl (rInt .i64)) w O a_r__costs c_r__costs r_.costs) (f_slots : SlR (rInt .i64) w O a_slots c_slots slots) {x : Bool} (hm : m5_overflightlaw37_CoalitionSums r_ slots = some x) :
    Ok Try.prog 5 [(Value.agg [(Value.int .i64 r_.slots), (Value.slice a_r__owners r_.owners.length c_r__owners), (Value.slice a_r__costs r_.costs.length c_r__costs)].toArray), (Value.slice a_slots slots.length c_slots)] w O vB x := by
  unfold m5_overflightlaw37_CoalitionSums at hm
  refine Fn_of_Wp (n := 154) (xs := [.tmp 4]) Try.func5 rfl Try.ntmps5 Try.results5 rfl ?_
  have hs := St.start hO
  refine Wp_seq ?_
  refine Wp_region ?_  -- 0 law.go:171
  refine Rg_op rfl (op_box (cs := [(Value.int .i64 r_.slots), (Value.slice a_r__owners r_.owners.length c_r__owners), (Value.slice a_r__costs r_.costs.length c_r__costs)]) hs rfl rfl ?_)
  intro b1 w2 _ p3 hs4
  replace f_r__owners := f_r__owners.step p3
  replace f_r__costs := f_r__costs.step p3
  replace f_slots := f_slots.step p3
  clear p3
  refine Rg_op rfl (op_assign (v := (Value.bool false)) rfl ?_)
  refine Rg_nil ?_
  refine Wp_seq ?_
  refine Wp_seq ?_
  refine Wp_region ?_  -- 1 law.go:172
  replace hm := bd hm; obtain ⟨sane_1, hv6, hm⟩ := hm
  refine Rg_op rfl (op_call Try.call15 (c15_overflightlaw37_sane  hs4.ltw  hv6) rfl ?_)
  rintro v7 w8 ⟨hx9, h10⟩
  have hs11 := hs4.call hx9
  have p12 := Step.ext (O := ks [(some b1, Obj.cells [(Value.int .i64 r_.slots), (Value.slice a_r__owners r_.owners.length c_r__owners), (Value.slice a_r__costs r_.costs.length c_r__costs)].toArray 25)] O) hx9
  clear hx9
  replace f_r__owners := f_r__owners.step p12
  replace f_r__costs := f_r__costs.step p12
  replace f_slots := f_slots.step p12
  clear p12 hs4
  obtain rfl := h10
  refine Rg_op rfl (op_not rfl ?_)
  refine Rg_nil ?_
  refine Wp_cond rfl (fun hc14 => ?_) (fun hc14 => ?_)
  ·
    replace hm := bif_t hm hc14
    refine Wp_seq ?_
    obtain ⟨hs15, p16⟩ := hs11.sub (bs' := []) (.cons _ List.Sublist.slnil)
    clear f_r__owners f_r__costs f_slots
    clear p16 hs11
    refine Wp_region ?_  -- 2 law.go:173
    refine Rg_op rfl (op_assign (v := (Value.bool false)) rfl ?_)
    refine Rg_nil ?_
    refine Wp_ret ?_
    have hz := step_all hs15
    refine ⟨_, (show Closes [] _ _ from rfl), [(Value.bool false)], ⟨rfl, trivial⟩, hs15.ext, ?_⟩
    exact Vr.eq (a := vB) (x := false) rfl (Option.some.inj hm)
  ·
    replace hm := bif_f hm hc14
    refine Wp_skip ?_
    refine Wp_seq ?_
    refine Wp_reset [] [(1, (Value.slice a_slots slots.length c_slots)), (2, (Value.pointer (some ⟨b1, 0, none⟩)))] rfl ⟨rfl, rfl, trivial⟩ fun ξ17 => ?_
    replace hm := jn_elim hm; obtain ⟨k19, hk20, hm⟩ := hm
    refine Wp_seqJ [20, 21, 22, 23, 24, 25, 26, 27] (fun fr w' => ∃ (v_1 : Bool) (Ebs : Ents), Ebs = [(some b1, Obj.cells [(Value.int .i64 r_.slots), (Value.slice a_r__owners r_.owners.length c_r__owners), (Value.slice a_r__costs r_.costs.length c_r__costs)].toArray 25)] ∧ fr [] [(27, (Value.bool v_1))] ∧ Step (ks [(some b1, Obj.cells [(Value.int .i64 r_.slots), (Value.slice a_r__owners r_.owners.length c_r__owners), (Value.slice a_r__costs r_.costs.length c_r__costs)].toArray 25)] O) w8 (ks Ebs O) w' ∧ St ⟨w, [], []⟩ O w' Ebs ∧ k19 v_1 = some x) ?_ ?_
    ·
      rintro ρ26 w22 ⟨v_1, Ebs, hEbs, hfr25, hst24, hs23, hm⟩
      replace hm := jnE1 hk20 hm
      subst hEbs; rw [hfr25.eq]; clear hfr25
      replace f_r__owners := f_r__owners.step hst24
      replace f_r__costs := f_r__costs.step hst24
      replace f_slots := f_slots.step hst24
      clear hst24 hs11
      refine Wp_cond rfl (fun hc27 => ?_) (fun hc27 => ?_)
      ·
        replace hm := bif_t hm hc27
        refine Wp_seq ?_
        obtain ⟨hs28, p29⟩ := hs23.sub (bs' := []) (.cons _ List.Sublist.slnil)
        clear f_r__owners f_r__costs f_slots
        clear p29 hs23
        refine Wp_region ?_  -- 4 law.go:176
        refine Rg_op rfl (op_assign (v := (Value.bool true)) rfl ?_)
        refine Rg_nil ?_
        refine Wp_ret ?_
        have hz := step_all hs28
        refine ⟨_, (show Closes [] _ _ from rfl), [(Value.bool true)], ⟨rfl, trivial⟩, hs28.ext, ?_⟩
        exact Vr.eq (a := vB) (x := true) rfl (Option.some.inj hm)
      ·
        replace hm := bif_f hm hc27
        refine Wp_skip ?_
        refine Wp_seq ?_
        refine Wp_region ?_  -- 5 law.go:178
        refine Rg_op rfl (op_loadA (cs := [(Value.int .i64 r_.slots), (Value.slice a_r__owners r_.owners.length c_r__owners), (Value.slice a_r__costs r_.costs.length c_r__costs)]) (vs := [(Value.int .i64 r_.slots), (Value.slice a_r__owners r_.owners.length c_r__owners), (Value.slice a_r__costs r_.costs.length c_r__costs)]) (i := 0) ty25 hs23 rfl rfl rfl rfl ?_)
        refine Rg_op rfl (op_move (v := (Value.slice a_slots slots.length c_slots)) rfl ?_)
        replace hm := bd hm; obtain ⟨costs_1, hv30, hm⟩ := hm
        refine Rg_op rfl (op_call Try.call18 (c18_coalition_Costs (r_ := r_) (slots := slots) hs23.ltw r_r__slots f_r__owners f_r__costs f_slots hv30) rfl ?_)
        rintro v31 w32 ⟨hx33, h34⟩
        have hs35 := hs23.call hx33
        have p36 := Step.ext (O := ks [(some b1, Obj.cells [(Value.int .i64 r_.slots), (Value.slice a_r__owners r_.owners.length c_r__owners), (Value.slice a_r__costs r_.costs.length c_r__costs)].toArray 25)] O) hx33
        clear hx33
        replace f_r__owners := f_r__owners.step p36
        replace f_r__costs := f_r__costs.step p36
        replace f_slots := f_slots.step p36
        clear p36 hs23
        obtain ⟨v37, v38, rfl, h39, h40⟩ := h34
        obtain ⟨a_y41, c_y41, rfl, f_y41⟩ := un_sl h39
        obtain ⟨rfl, r_y42⟩ := h40
        refine Rg_op rfl (op_move (v := (Value.tuple [(Value.slice a_y41 costs_1.1.length c_y41), (Value.int .i64 costs_1.2)].toArray)) rfl ?_)
        refine Rg_op rfl (op_extract (v := (Value.slice a_y41 costs_1.1.length c_y41)) rfl rfl ?_)
        refine Rg_op rfl (op_extract (v := (Value.int .i64 costs_1.2)) rfl rfl ?_)
        refine Rg_op rfl (op_assign (v := (Value.slice a_y41 costs_1.1.length c_y41)) rfl ?_)
        refine Rg_op rfl (op_assign (v := (Value.int .i64 costs_1.2)) rfl ?_)
        refine Rg_nil ?_
        refine Wp_seq ?_
        refine Wp_region ?_  -- 6 law.go:179
        refine Rg_op rfl (op_loadA (cs := [(Value.int .i64 r_.slots), (Value.slice a_r__owners r_.owners.length c_r__owners), (Value.slice a_r__costs r_.costs.length c_r__costs)]) (vs := [(Value.int .i64 r_.slots), (Value.slice a_r__owners r_.owners.length c_r__owners), (Value.slice a_r__costs r_.costs.length c_r__costs)]) (i := 0) ty25 hs35 rfl rfl rfl rfl ?_)
        refine Rg_op rfl (op_move (v := (Value.slice a_slots slots.length c_slots)) rfl ?_)
        replace hm := bd hm; obtain ⟨worse_1, hv43, hm⟩ := hm
        refine Rg_op rfl (op_call Try.call23 (c23_coalition_Worse (r_ := r_) (slots := slots) hs35.ltw r_r__slots f_r__owners f_r__costs f_slots hv43) rfl ?_)
        rintro v44 w45 ⟨hx46, h47⟩
        have hs48 := hs35.call hx46
        have p49 := Step.ext (O := ks [(some b1, Obj.cells [(Value.int .i64 r_.slots), (Value.slice a_r__owners r_.owners.length c_r__owners), (Value.slice a_r__costs r_.costs.length c_r__costs)].toArray 25)] O) hx46
        clear hx46
        replace f_r__owners := f_r__owners.step p49
        replace f_r__costs := f_r__costs.step p49
        replace f_slots := f_slots.step p49
        replace f_y41 := f_y41.step p49
        clear p49 hs35
        obtain ⟨v50, v51, rfl, h52, h53⟩ := h47
        obtain ⟨a_y54, c_y54, rfl, f_y54⟩ := un_sl h52
        obtain ⟨rfl, r_y55⟩ := h53
        refine Rg_op rfl (op_move (v := (Value.tuple [(Value.slice a_y54 worse_1.1.length c_y54), (Value.int .i64 worse_1.2)].toArray)) rfl ?_)
        refine Rg_op rfl (op_extract (v := (Value.slice a_y54 worse_1.1.length c_y54)) rfl rfl ?_)
        refine Rg_op rfl (op_extract (v := (Value.int .i64 worse_1.2)) rfl rfl ?_)
        refine Rg_op rfl (op_assign (v := (Value.slice a_y54 worse_1.1.length c_y54)) rfl ?_)
        refine Rg_op rfl (op_assign (v := (Value.int .i64 worse_1.2)) rfl ?_)
        refine Rg_nil ?_
        refine Wp_seq ?_
        refine Wp_region ?_  -- 7 law.go:180
        refine Rg_op rfl (op_loadA (cs := [(Value.int .i64 r_.slots), (Value.slice a_r__owners r_.owners.length c_r__owners), (Value.slice a_r__costs r_.costs.length c_r__costs)]) (vs := [(Value.int .i64 r_.slots), (Value.slice a_r__owners r_.owners.length c_r__owners), (Value.slice a_r__costs r_.costs.length c_r__costs)]) (i := 0) ty25 hs48 rfl rfl rfl rfl ?_)
        refine Rg_op rfl (op_move (v := (Value.slice a_slots slots.length c_slots)) rfl ?_)
        replace hm := bd hm; obtain ⟨allowed_1, hv56, hm⟩ := hm
        refine Rg_op rfl (op_call Try.call24 (c24_coalition_Allowed (r_ := r_) (slots := slots) hs48.ltw r_r__slots f_r__owners f_r__costs f_slots hv56) rfl ?_)
        rintro v57 w58 ⟨hx59, h60⟩
        have hs61 := hs48.call hx59
        have p62 := Step.ext (O := ks [(some b1, Obj.cells [(Value.int .i64 r_.slots), (Value.slice a_r__owners r_.owners.length c_r__owners), (Value.slice a_r__costs r_.costs.length c_r__costs)].toArray 25)] O) hx59
        clear hx59
        replace f_r__owners := f_r__owners.step p62
        replace f_r__costs := f_r__costs.step p62
        replace f_slots := f_slots.step p62
        replace f_y41 := f_y41.step p62
        replace f_y54 := f_y54.step p62
        clear p62 hs48
        obtain ⟨v63, v64, rfl, h65, h66⟩ := h60
        obtain rfl := h65
        obtain ⟨rfl, r_y68⟩ := h66
        refine Rg_op rfl (op_move (v := (Value.tuple [(Value.bool allowed_1.1), (Value.int .i64 allowed_1.2)].toArray)) rfl ?_)
        refine Rg_op rfl (op_extract (v := (Value.bool allowed_1.1)) rfl rfl ?_)
        refine Rg_op rfl (op_extract (v := (Value.int .i64 allowed_1.2)) rfl rfl ?_)
        refine Rg_op rfl (op_assign (v := (Value.bool allowed_1.1)) rfl ?_)
        refine Rg_op rfl (op_assign (v := (Value.int .i64 allowed_1.2)) rfl ?_)
        refine Rg_nil ?_
        refine Wp_seq ?_
        refine Wp_seq ?_
        refine Wp_reset [] [(1, (Value.slice a_slots slots.length c_slots)), (2, (Value.pointer (some ⟨b1, 0, none⟩))), (5, (Value.slice a_y41 costs_1.1.length c_y41)), (6, (Value.int .i64 costs_1.2)), (7, (Value.slice a_y54 worse_1.1.length c_y54)), (8, (Value.int .i64 worse_1.2)), (9, (Value.bool allowed_1.1)), (10, (Value.int .i64 allowed_1.2))] rfl ⟨rfl, rfl, rfl, rfl, rfl, rfl, rfl, rfl, trivial⟩ fun ξ69 => ?_
        refine Wp_region ?_  -- 8 law.go:181
        refine Rg_op rfl (op_move (v := (Value.int .i64 costs_1.2)) rfl ?_)
        refine Rg_op rfl (op_neq rfl rfl ?_)
        refine Rg_nil ?_
        refine Wp_cond rfl (fun hc70 => ?_) (fun hc70 => ?_)
        ·
          replace hm := bif_t hm hc70
          refine Wp_seq ?_
          obtain ⟨hs71, p72⟩ := hs61.sub (bs' := []) (.cons _ List.Sublist.slnil)
          clear f_r__owners f_r__costs f_slots f_y41 f_y54
          clear p72 hs61
          refine Wp_region ?_  -- 9 law.go:182
          refine Rg_op rfl (op_move (v := (Value.int .i64 worse_1.2)) rfl ?_)
          refine Rg_op rfl (op_move (v := (Value.int .i64 costs_1.2)) rfl ?_)
          refine Rg_op rfl (op_eql rfl rfl ?_)
          refine Rg_op rfl (op_move (v := (Value.bool (decide (worse_1.2 = costs_1.2)))) rfl ?_)
          refine Rg_case (fun hg73 => ?_) (fun hg73 => ?_)
          ·
            replace hm := bif_t hm hg73
            refine Rg_opg rfl rfl rfl (op_move (v := (Value.int .i64 allowed_1.2)) rfl ?_)
            refine Rg_opg rfl rfl rfl (op_move (v := (Value.int .i64 costs_1.2)) rfl ?_)
            refine Rg_opg rfl rfl rfl (op_eql rfl rfl ?_)
            refine Rg_opg rfl rfl rfl (op_move (v := (Value.bool (decide (allowed_1.2 = costs_1.2)))) rfl ?_)
            refine Rg_case (fun hg74 => ?_) (fun hg74 => ?_)
            ·
              replace hm := bif_t hm hg74
              refine Rg_opx rfl (asB_ne rfl rfl) rfl ?_
              refine Rg_opx rfl (asB_ne rfl rfl) rfl ?_
              refine Rg_opg rfl rfl rfl (op_pick_t (v := (Value.bool true)) rfl rfl ?_)
              refine Rg_op rfl (op_pick_t (v := (Value.bool true)) rfl rfl ?_)
              refine Rg_op rfl (op_assign (v := (Value.bool true)) rfl ?_)
              refine Rg_nil ?_
              refine Wp_ret ?_
              have hz := step_all hs71
              refine ⟨_, (show Closes [] _ _ from rfl), [(Value.bool true)], ⟨rfl, trivial⟩, hs71.ext, ?_⟩
              exact Vr.eq (a := vB) (x := true) rfl (Option.some.inj hm)
            ·
              replace hm := bif_f hm hg74
              refine Rg_opg rfl rfl rfl (op_move (v := (Value.bool allowed_1.1)) rfl ?_)
              refine Rg_opg rfl rfl rfl (op_not rfl ?_)
              refine Rg_opg rfl rfl rfl (op_pick_f (v := (Value.bool (!allowed_1.1))) rfl rfl ?_)
              refine Rg_op rfl (op_pick_t (v := (Value.bool (!allowed_1.1))) rfl rfl ?_)
              refine Rg_op rfl (op_assign (v := (Value.bool (!allowed_1.1))) rfl ?_)
              refine Rg_nil ?_
              refine Wp_ret ?_
              have hz := step_all hs71
              refine ⟨_, (show Closes [] _ _ from rfl), [(Value.bool (!allowed_1.1))], ⟨rfl, trivial⟩, hs71.ext, ?_⟩
              exact Vr.eq (a := vB) (x := (!allowed_1.1)) rfl (Option.some.inj hm)
          ·
            replace hm := bif_f hm hg73
            refine Rg_opx rfl (asB_ne rfl rfl) rfl ?_
            refine Rg_opx rfl (asB_ne rfl rfl) rfl ?_
            refine Rg_opx rfl (asB_ne rfl rfl) rfl ?_
            refine Rg_opx rfl (asB_ne rfl rfl) rfl ?_
            refine Rg_opx rfl (asB_ne rfl rfl) rfl ?_
            refine Rg_opx rfl (asB_ne rfl rfl) rfl ?_
            refine Rg_opx rfl (asB_ne rfl rfl) rfl ?_
            refine Rg_op rfl (op_pick_f (v := (Value.bool false)) rfl rfl ?_)
            refine Rg_op rfl (op_assign (v := (Value.bool false)) rfl ?_)
            refine Rg_nil ?_
            refine Wp_ret ?_
            have hz := step_all hs71
            refine ⟨_, (show Closes [] _ _ from rfl), [(Value.bool false)], ⟨rfl, trivial⟩, hs71.ext, ?_⟩
            exact Vr.eq (a := vB) (x := false) rfl (Option.some.inj hm)
        ·
          replace hm := bif_f hm hc70
          refine Wp_skip ?_
          refine Wp_seq ?_
          refine Wp_reset [] [(1, (Value.slice a_slots slots.length c_slots)), (2, (Value.pointer (some ⟨b1, 0, none⟩))), (5, (Value.slice a_y41 costs_1.1.length c_y41)), (7, (Value.slice a_y54 worse_1.1.length c_y54)), (8, (Value.int .i64 worse_1.2)), (9, (Value.bool allowed_1.1)), (10, (Value.int .i64 allowed_1.2))] rfl ⟨rfl, rfl, rfl, rfl, rfl, rfl, rfl, trivial⟩ fun ξ75 => ?_
          replace hm := jn_elim hm; obtain ⟨k77, hk78, hm⟩ := hm
          refine Wp_seqJ [60, 61, 62, 63, 64, 65, 66, 67, 68, 69, 70, 71, 72, 73, 74, 75, 76, 77, 78, 79, 80, 81, 82] (fun fr w' => ∃ (v_2 : Bool) (Ebs : Ents), Ebs = [(some b1, Obj.cells [(Value.int .i64 r_.slots), (Value.slice a_r__owners r_.owners.length c_r__owners), (Value.slice a_r__costs r_.costs.length c_r__costs)].toArray 25)] ∧ fr [] [(82, (Value.bool v_2))] ∧ Step (ks [(some b1, Obj.cells [(Value.int .i64 r_.slots), (Value.slice a_r__owners r_.owners.length c_r__owners), (Value.slice a_r__costs r_.costs.length c_r__costs)].toArray 25)] O) w58 (ks Ebs O) w' ∧ St ⟨w, [], []⟩ O w' Ebs ∧ k77 v_2 = some x) ?_ ?_
          ·
            rintro ρ84 w80 ⟨v_2, Ebs, hEbs, hfr83, hst82, hs81, hm⟩
            replace hm := jnE1 hk78 hm
            subst hEbs; rw [hfr83.eq]; clear hfr83
            replace f_r__owners := f_r__owners.step hst82
            replace f_r__costs := f_r__costs.step hst82
            replace f_slots := f_slots.step hst82
            replace f_y41 := f_y41.step hst82
            replace f_y54 := f_y54.step hst82
            clear hst82 hs61
            refine Wp_cond rfl (fun hc85 => ?_) (fun hc85 => ?_)
            ·
              replace hm := bif_t hm hc85
              refine Wp_seq ?_
              obtain ⟨hs86, p87⟩ := hs81.sub (bs' := []) (.cons _ List.Sublist.slnil)
              clear f_r__owners f_r__costs f_slots f_y41 f_y54
              clear p87 hs81
              refine Wp_region ?_  -- 11 law.go:185
              refine Rg_op rfl (op_assign (v := (Value.bool false)) rfl ?_)
              refine Rg_nil ?_
              refine Wp_ret ?_
              have hz := step_all hs86
              refine ⟨_, (show Closes [] _ _ from rfl), [(Value.bool false)], ⟨rfl, trivial⟩, hs86.ext, ?_⟩
              exact Vr.eq (a := vB) (x := false) rfl (Option.some.inj hm)
            ·
              replace hm := bif_f hm hc85
              refine Wp_skip ?_
              refine Wp_seq ?_
              refine Wp_region ?_  -- 12 law.go:187
              refine Rg_op rfl (op_assign (v := (Value.int .i64 0)) rfl ?_)
              refine Rg_nil ?_
              refine Wp_seq ?_
              refine Wp_seq ?_
              refine Wp_region ?_  -- 13 law.go:188
              refine Rg_op rfl (op_move (v := (Value.int .i64 0)) rfl ?_)
              refine Rg_nil ?_
              refine Wp_block ?_
              refine Wp_reset [] [(1, (Value.slice a_slots slots.length c_slots)), (2, (Value.pointer (some ⟨b1, 0, none⟩))), (5, (Value.slice a_y41 costs_1.1.length c_y41)), (7, (Value.slice a_y54 worse_1.1.length c_y54)), (11, (Value.int .i64 0)), (83, (Value.int .i64 0))] rfl ⟨rfl, rfl, rfl, rfl, rfl, rfl, trivial⟩ fun ξ90 => ?_
              refine Wp_loopM [4, 11, 12, 13, 14, 15, 16, 17, 83, 84, 85, 86, 87, 88, 89, 90, 91, 92, 93, 94, 95, 96, 97, 98, 99, 100, 101, 102, 103, 104, 105, 106, 107, 108, 109, 110, 111, 112, 113, 114, 115, 116, 117, 118, 119, 120, 121, 122, 123, 124, 125, 126, 127, 128, 129, 130, 131, 132, 133, 134, 135, 136, 137, 138, 139, 140, 141, 142, 143, 144, 145, 146, 147, 148, 149] (fun m fr w' => ∃ (n_1 : Int) (v_3 : Int) (Ebs : Ents), Ebs = [(some b1, Obj.cells [(Value.int .i64 r_.slots), (Value.slice a_r__owners r_.owners.length c_r__owners), (Value.slice a_r__costs r_.costs.length c_r__costs)].toArray 25)] ∧ fr [] [(11, (Value.int .i64 n_1)), (83, (Value.int .i64 v_3))] ∧ Step (ks [(some b1, Obj.cells [(Value.int .i64 r_.slots), (Value.slice a_r__owners r_.owners.length c_r__owners), (Value.slice a_r__costs r_.costs.length c_r__costs)].toArray 25)] O) w80 (ks Ebs O) w' ∧ St ⟨w, [], []⟩ O w' Ebs ∧ InK .i64 n_1 ∧ InK .i64 v_3 ∧ loop2 (m5_overflightlaw37_CoalitionSums_B0 r_ slots costs_1 worse_1) m n_1 v_3 = some x) (((8 : Int) - 0).toNat + 1) ⟨0, 0, _, rfl, ⟨Out.refl _ _, rfl, rfl, rfl, trivial⟩, Step.refl _ _, hs81, (show InK .i64 0 from by decide), (show InK .i64 0 from by decide), hm⟩ ?_ ?_
              · rintro _ _ ⟨_, _, _, _, _, _, _, _, _, hm⟩; exact loop2_z hm
              · rintro m94 K93 hK93 ρ99 w95 ⟨n_1, v_3, Ebs, hEbs, hfr98, hst97, hs96, r_y88, r_y89, hm⟩
                obtain ⟨sf91, hsf92, hm⟩ := loop2_s hm; unfold m5_overflightlaw37_CoalitionSums_B0 at hm
                subst hEbs; rw [hfr98.eq]; clear hfr98
                replace f_r__owners := f_r__owners.step hst97
                replace f_r__costs := f_r__costs.step hst97
                replace f_slots := f_slots.step hst97
                replace f_y41 := f_y41.step hst97
                replace f_y54 := f_y54.step hst97
                have ch100 := hst97
                refine Wp_seq ?_
                refine Wp_region ?_  -- 14 law.go:188
                refine Rg_op rfl (op_lss rfl rfl ?_)
                refine Rg_nil ?_
                refine Wp_seq ?_
                refine Wp_cond rfl (fun hc101 => ?_) (fun hc101 => ?_)
                ·
                  replace hm := bif_t hm hc101
                  refine Wp_skip ?_
                  refine Wp_reset2 [4, 11, 12, 13, 14, 15, 16, 17, 83, 84, 85, 86, 87, 88, 89, 90, 91, 92, 93, 94, 95, 96, 97, 98, 99, 100, 101, 102, 103, 104, 105, 106, 107, 108, 109, 110, 111, 112, 113, 114, 115, 116, 117, 118, 119, 120, 121, 122, 123, 124, 125, 126, 127, 128, 129, 130, 131, 132, 133, 134, 135, 136, 137, 138, 139, 140, 141, 142, 143, 144, 145, 146, 147, 148, 149] [] (updL ⟨ξ90, []⟩ [(1, (Value.slice a_slots slots.length c_slots)), (2, (Value.pointer (some ⟨b1, 0, none⟩))), (5, (Value.slice a_y41 costs_1.1.length c_y41)), (7, (Value.slice a_y54 worse_1.1.length c_y54)), (11, (Value.int .i64 0)), (83, (Value.int .i64 0))]) [(11, (Value.int .i64 n_1)), (83, (Value.int .i64 v_3))] (by repeat (first | with_reducible exact Out.refl _ _ | refine Out.upd ?_ rfl | refine Out.updL ?_ rfl | refine Out.mix' ?_ rfl | exact Out.refl _ _)) rfl ⟨rfl, rfl, trivial⟩ fun ξ102 => ?_
                  replace hm := jn_elim hm; obtain ⟨k104, hk105, hm⟩ := hm
                  refine Wp_seqJ [4, 11, 12, 13, 14, 15, 16, 17, 85, 86, 87, 88, 89, 90, 91, 92, 93, 94, 95, 96, 97, 98, 99, 100, 101, 102, 103, 104, 105, 106, 107, 108, 109, 110, 111, 112, 113, 114, 115, 116, 117, 118, 119, 120, 121, 122, 123, 124, 125, 126, 127, 128, 129, 130, 131, 132, 133, 134, 135, 136, 137, 138, 139, 140, 141, 142, 143, 144, 145, 146, 147, 148] (fun fr w' => ∃ (n_2 : Int) (Ebs : Ents), Ebs = [(some b1, Obj.cells [(Value.int .i64 r_.slots), (Value.slice a_r__owners r_.owners.length c_r__owners), (Value.slice a_r__costs r_.costs.length c_r__costs)].toArray 25)] ∧ fr [] [(11, (Value.int .i64 n_2))] ∧ Step (ks [(some b1, Obj.cells [(Value.int .i64 r_.slots), (Value.slice a_r__owners r_.owners.length c_r__owners), (Value.slice a_r__costs r_.costs.length c_r__costs)].toArray 25)] O) w95 (ks Ebs O) w' ∧ St ⟨w, [], []⟩ O w' Ebs ∧ InK .i64 n_2 ∧ k104 n_2 = some x) ?_ ?_
                  ·
                    rintro ρ111 w107 ⟨n_2, Ebs, hEbs, hfr110, hst109, hs108, r_y103, hm⟩
                    replace hm := jnE1 hk105 hm
                    subst hEbs; rw [hfr110.eq]; clear hfr110
                    replace f_r__owners := f_r__owners.step hst109
                    replace f_r__costs := f_r__costs.step hst109
                    replace f_slots := f_slots.step hst109
                    replace f_y41 := f_y41.step hst109
                    replace f_y54 := f_y54.step hst109
                    replace ch100 := ch100.trans hst109
                    clear hst109 hs96
                    refine Wp_region ?_  -- 29 law.go:188
                    refine Rg_op rfl (op_addw rfl rfl ?_)
                    refine Rg_op rfl (op_move (v := (Value.int .i64 (IntKind.wrap .i64 (v_3 + 1)))) rfl ?_)
                    refine Rg_nil ?_
                    exact hK93 _ _ ⟨n_2, (IntKind.wrap .i64 (v_3 + 1)), _, rfl, ⟨(by repeat (first | with_reducible exact Out.refl _ _ | refine Out.upd ?_ rfl | refine Out.updL ?_ rfl | refine Out.mix' ?_ rfl | exact Out.refl _ _)), rfl, rfl, rfl, trivial⟩, ch100, hs108, r_y103, (inK_wrap .i64 _), jnE2 hsf92 hm⟩
                  ·
                    intro K106 hK106
                    have ch112 := Step.refl (ks [(some b1, Obj.cells [(Value.int .i64 r_.slots), (Value.slice a_r__owners r_.owners.length c_r__owners), (Value.slice a_r__costs r_.costs.length c_r__costs)].toArray 25)] O) w95
                    refine Wp_block ?_
                    refine Wp_seq ?_
                    refine Wp_region ?_  -- 15 law.go:188
                    refine Rg_op rfl (op_move (v := (Value.int .i64 v_3)) rfl ?_)
                    refine Rg_op rfl (op_assign (v := (Value.int .i64 v_3)) rfl ?_)
                    refine Rg_nil ?_
                    refine Wp_seq ?_
                    refine Wp_region ?_  -- 16 law.go:189
                    refine Rg_op rfl (op_assign (v := (Value.int .i64 0)) rfl ?_)
                    refine Rg_op rfl (op_assign (v := (Value.int .i64 0)) rfl ?_)
                    refine Rg_nil ?_
                    refine Wp_seq ?_
                    refine Wp_seq ?_
                    refine Wp_region ?_  -- 17 law.go:190
                    refine Rg_op rfl (op_fieldAddr ty25 rfl ty22 (by decide) rfl (rfl : _ = (⟨_, 1, none⟩ : Addr)) ?_)
                    refine Rg_op rfl (op_load (cs := [(Value.int .i64 r_.slots), (Value.slice a_r__owners r_.owners.length c_r__owners), (Value.slice a_r__costs r_.costs.length c_r__costs)]) (i := 0) ty22 hs96 rfl rfl rfl ?_)
                    refine Rg_op rfl (op_len Try.underlying22 rfl ?_)
                    refine Rg_op rfl (op_move (v := (Value.int .i64 0)) rfl ?_)
                    refine Rg_nil ?_
                    refine Wp_block ?_
                    refine Wp_reset2 [4, 11, 12, 13, 14, 15, 16, 17, 85, 86, 87, 88, 89, 90, 91, 92, 93, 94, 95, 96, 97, 98, 99, 100, 101, 102, 103, 104, 105, 106, 107, 108, 109, 110, 111, 112, 113, 114, 115, 116, 117, 118, 119, 120, 121, 122, 123, 124, 125, 126, 127, 128, 129, 130, 131, 132, 133, 134, 135, 136, 137, 138, 139, 140, 141, 142, 143, 144, 145, 146, 147, 148] [] (updL (mix [4, 11, 12, 13, 14, 15, 16, 17, 83, 84, 85, 86, 87, 88, 89, 90, 91, 92, 93, 94, 95, 96, 97, 98, 99, 100, 101, 102, 103, 104, 105, 106, 107, 108, 109, 110, 111, 112, 113, 114, 115, 116, 117, 118, 119, 120, 121, 122, 123, 124, 125, 126, 127, 128, 129, 130, 131, 132, 133, 134, 135, 136, 137, 138, 139, 140, 141, 142, 143, 144, 145, 146, 147, 148, 149] [] ξ102 (updL ⟨ξ90, []⟩ [(1, (Value.slice a_slots slots.length c_slots)), (2, (Value.pointer (some ⟨b1, 0, none⟩))), (5, (Value.slice a_y41 costs_1.1.length c_y41)), (7, (Value.slice a_y54 worse_1.1.length c_y54)), (11, (Value.int .i64 0)), (83, (Value.int .i64 0))])) [(11, (Value.int .i64 n_1)), (83, (Value.int .i64 v_3))]) [(11, (Value.int .i64 n_1)), (12, (Value.int .i64 v_3)), (13, (Value.int .i64 0)), (14, (Value.int .i64 0)), (87, (Value.slice a_r__owners r_.owners.length c_r__owners)), (88, (Value.int .i64 (r_.owners.length : Int))), (89, (Value.int .i64 0))] (by repeat (first | with_reducible exact Out.refl _ _ | refine Out.upd ?_ rfl | refine Out.updL ?_ rfl | refine Out.mix' ?_ rfl | exact Out.refl _ _)) rfl ⟨rfl, rfl, rfl, rfl, rfl, rfl, rfl, trivial⟩ fun ξ116 => ?_
                    refine Wp_loopM [13, 14, 15, 16, 89, 90, 91, 92, 93, 94, 95, 96, 97, 98, 99, 100, 101, 102, 103, 104, 105, 106, 107, 108, 109, 110, 111, 112, 113, 114, 115, 116, 117, 118, 119, 120] (fun m fr w' => ∃ (sum_1 : Int) (own_1 : Int) (v_4 : Int) (Ebs : Ents), Ebs = [(some b1, Obj.cells [(Value.int .i64 r_.slots), (Value.slice a_r__owners r_.owners.length c_r__owners), (Value.slice a_r__costs r_.costs.length c_r__costs)].toArray 25)] ∧ fr [] [(13, (Value.int .i64 sum_1)), (14, (Value.int .i64 own_1)), (89, (Value.int .i64 v_4))] ∧ Step (ks [(some b1, Obj.cells [(Value.int .i64 r_.slots), (Value.slice a_r__owners r_.owners.length c_r__owners), (Value.slice a_r__costs r_.costs.length c_r__costs)].toArray 25)] O) w95 (ks Ebs O) w' ∧ St ⟨w, [], []⟩ O w' Ebs ∧ InK .i64 sum_1 ∧ InK .i64 own_1 ∧ InK .i64 v_4 ∧ loop3 (m5_overflightlaw37_CoalitionSums_B1 r_ slots costs_1 worse_1 n_1 v_3 k104) m sum_1 own_1 v_4 = some x) (((r_.owners.length : Int) - 0).toNat + 1) ⟨0, 0, 0, _, rfl, ⟨Out.refl _ _, rfl, rfl, rfl, rfl, trivial⟩, Step.refl _ _, hs96, (show InK .i64 0 from by decide), (show InK .i64 0 from by decide), (show InK .i64 0 from by decide), hm⟩ ?_ ?_
                    · rintro _ _ ⟨_, _, _, _, _, _, _, _, _, _, _, hm⟩; exact loop3_z hm
                    · rintro m120 K119 hK119 ρ125 w121 ⟨sum_1, own_1, v_4, Ebs, hEbs, hfr124, hst123, hs122, r_y113, r_y114, r_y115, hm⟩
                      obtain ⟨sf117, hsf118, hm⟩ := loop3_s hm; unfold m5_overflightlaw37_CoalitionSums_B1 at hm
                      subst hEbs; rw [hfr124.eq]; clear hfr124
                      replace f_r__owners := f_r__owners.step hst123
                      replace f_r__costs := f_r__costs.step hst123
                      replace f_slots := f_slots.step hst123
                      replace f_y41 := f_y41.step hst123
                      replace f_y54 := f_y54.step hst123
                      replace ch100 := ch100.trans hst123
                      replace ch112 := ch112.trans hst123
                      have ch126 := hst123
                      refine Wp_seq ?_
                      refine Wp_region ?_  -- 18 law.go:190
                      refine Rg_op rfl (op_lss rfl rfl ?_)
                      refine Rg_nil ?_
                      refine Wp_seq ?_
                      refine Wp_cond rfl (fun hc127 => ?_) (fun hc127 => ?_)
                      ·
                        replace hm := bif_t hm hc127
                        refine Wp_skip ?_
                        refine Wp_seq ?_
                        refine Wp_block ?_
                        refine Wp_seq ?_
                        refine Wp_region ?_  -- 19 law.go:190
                        refine Rg_op rfl (op_move (v := (Value.int .i64 v_4)) rfl ?_)
                        replace hm := ck_some hm; obtain ⟨hc128, hm⟩ := hm
                        refine Rg_op rfl (op_indexAddr (q := (rInt .i64)) ty22 ty3 rfl rfl f_r__owners rfl hc128.1 hc128.2 ?_)
                        intro p129 f130
                        refine Rg_op rfl (op_loadP ty3 rfl f130 rfl ?_)
                        intro v131 h132
                        obtain ⟨rfl, r_y133⟩ := un_int h132
                        refine Rg_op rfl (op_assign (v := (Value.int .i64 v_4)) rfl ?_)
                        refine Rg_op rfl (op_assign (v := (Value.int .i64 (r_.owners.getD v_4.toNat default))) rfl ?_)
                        refine Rg_nil ?_
                        refine Wp_seq ?_
                        clear f130
                        refine Wp_region ?_  -- 20 law.go:191
                        refine Rg_op rfl (op_move (v := (Value.int .i64 (r_.owners.getD v_4.toNat default))) rfl ?_)
                        refine Rg_op rfl (op_move (v := (Value.int .i64 v_3)) rfl ?_)
                        refine Rg_op rfl (op_eql rfl rfl ?_)
                        refine Rg_nil ?_
                        refine Wp_cond rfl (fun hc134 => ?_) (fun hc134 => ?_)
                        ·
                          replace hm := bif_t hm hc134
                          refine Wp_seq ?_
                          refine Wp_drawR (g0 := []) (m := 10) (fl := [0]) (TS_inv hs122) (.inl rfl) rfl (by decide +kernel) ?_  -- 21
                          refine Dw_eq (Value.int .i64 sum_1) (fun ρ135 w136 g hle hi ht => ?_) ?_
                          ·
                            obtain ⟨-, hst, -⟩ := hle
                            refine StepOp_plain (op_move (v := (Value.int .i64 sum_1)) (ht 13 rfl) ?_)
                            exact Goes.same hi rfl
                          refine Dw_eq (Value.pointer (some ⟨b1, 2, none⟩)) (fun ρ138 w139 g hle hi ht => ?_) ?_
                          ·
                            obtain ⟨-, hst, -⟩ := hle
                            refine StepOp_plain (op_fieldAddr ty25 rfl ty23 (by decide) (ht 2 rfl) (rfl : _ = (⟨_, 2, none⟩ : Addr)) ?_)
                            exact Goes.same hi rfl
                          refine Dw_eq (Value.slice a_r__costs r_.costs.length c_r__costs) (fun ρ141 w142 g hle hi ht => ?_) ?_
                          ·
                            obtain ⟨-, hst, -⟩ := hle
                            have hsn := (Step.nx hi).1
                            refine StepOp_plain (op_load (cs := [(Value.int .i64 r_.slots), (Value.slice a_r__owners r_.owners.length c_r__owners), (Value.slice a_r__costs r_.costs.length c_r__costs)]) (i := 0) ty23 hsn (ht 98 rfl) rfl rfl ?_)
                            exact Goes.same hi rfl
                          refine Dw_eq (Value.int .i64 v_4) (fun ρ144 w145 g hle hi ht => ?_) ?_
                          ·
                            obtain ⟨-, hst, -⟩ := hle
                            refine StepOp_plain (op_move (v := (Value.int .i64 v_4)) (ht 15 rfl) ?_)
                            exact Goes.same hi rfl
                          replace hm := ck_some hm; obtain ⟨hc150, hm⟩ := hm
                          refine Dw_op (VP O [(some b1, Obj.cells [(Value.int .i64 r_.slots), (Value.slice a_r__owners r_.owners.length c_r__owners), (Value.slice a_r__costs r_.costs.length c_r__costs)].toArray 25)] (rSl (rInt .i64)) (r_.costs.getD v_4.toNat default)) (VP.stab _ _) (fun ρ147 w148 g hle hi ht => ?_) ?_
                          ·
                            obtain ⟨-, hst, -⟩ := hle
                            replace f_r__costs := f_r__costs.step hst
                            refine StepOp_plain (op_indexAddr (q := (rSl (rInt .i64))) ty23 ty22 (ht 99 rfl) (ht 100 rfl) f_r__costs rfl hc150.1 hc150.2 ?_)
                            intro p151 f152
                            exact Goes.same hi ⟨_, rfl, f152⟩
                          refine Dw_op (VD O [(some b1, Obj.cells [(Value.int .i64 r_.slots), (Value.slice a_r__owners r_.owners.length c_r__owners), (Value.slice a_r__costs r_.costs.length c_r__costs)].toArray 25)] (vC (rSl (rInt .i64))) (r_.costs.getD v_4.toNat default)) (VD.stab _ _) (fun ρ153 w154 g hle hi ht => ?_) ?_
                          ·
                            obtain ⟨-, hst, -⟩ := hle
                            obtain ⟨p156, q157, f158⟩ := ht 101 rfl
                            refine StepOp_plain (op_loadP ty22 q157 f158 rfl ?_)
                            intro v159 h160
                            obtain ⟨a_y161, c_y161, rfl, f_y161⟩ := un_sl h160
                            exact Goes.same hi (show Vr.vd (vC (rSl (rInt .i64))) _ _ _ _ from (mkC (mk_sl f_y161)))
                          refine Dw_eq (Value.slice a_slots slots.length c_slots) (fun ρ162 w163 g hle hi ht => ?_) ?_
                          ·
                            obtain ⟨-, hst, -⟩ := hle
                            refine StepOp_plain (op_move (v := (Value.slice a_slots slots.length c_slots)) (ht 1 rfl) ?_)
                            exact Goes.same hi rfl
                          refine Dw_eq (Value.int .i64 v_4) (fun ρ165 w166 g hle hi ht => ?_) ?_
                          ·
                            obtain ⟨-, hst, -⟩ := hle
                            refine StepOp_plain (op_move (v := (Value.int .i64 v_4)) (ht 15 rfl) ?_)
                            exact Goes.same hi rfl
                          replace hm := ck_some hm; obtain ⟨hc171, hm⟩ := hm
                          refine Dw_op (VP O [(some b1, Obj.cells [(Value.int .i64 r_.slots), (Value.slice a_r__owners r_.owners.length c_r__owners), (Value.slice a_r__costs r_.costs.length c_r__costs)].toArray 25)] (rInt .i64) (slots.getD v_4.toNat default)) (VP.stab _ _) (fun ρ168 w169 g hle hi ht => ?_) ?_
                          ·
                            obtain ⟨-, hst, -⟩ := hle
                            replace f_slots := f_slots.step hst
                            refine StepOp_plain (op_indexAddr (q := (rInt .i64)) ty22 ty3 (ht 103 rfl) (ht 104 rfl) f_slots rfl hc171.1 hc171.2 ?_)
                            intro p172 f173
                            exact Goes.same hi ⟨_, rfl, f173⟩
                          refine Dw_op (VD O [(some b1, Obj.cells [(Value.int .i64 r_.slots), (Value.slice a_r__owners r_.owners.length c_r__owners), (Value.slice a_r__costs r_.costs.length c_r__costs)].toArray 25)] (vI .i64) (slots.getD v_4.toNat default)) (VD.stab _ _) (fun ρ174 w175 g hle hi ht => ?_) ?_
                          ·
                            obtain ⟨-, hst, -⟩ := hle
                            obtain ⟨p177, q178, f179⟩ := ht 105 rfl
                            refine StepOp_plain (op_loadP ty3 q178 f179 rfl ?_)
                            intro v180 h181
                            obtain ⟨rfl, r_y182⟩ := un_int h181
                            exact Goes.same hi (show Vr.vd (vI .i64) _ _ _ _ from ⟨rfl, r_y182⟩)
                          refine Dw_nil fun w187 g188 hl189 hi190 => ?_
                          obtain ⟨-, hst191, -⟩ := hl189
                          obtain ⟨hs193, p192⟩ := Step.nx hi190
                          rintro v194 h195
                          replace h195 : Vr.vd (vI .i64) _ _ _ _ := h195
                          obtain ⟨rfl, r_y196⟩ := h195
                          rintro _ ⟨p197, rfl, f198⟩
                          rintro _ rfl
                          rintro _ rfl
                          rintro v199 h200
                          replace h200 : Vr.vd (vC (rSl (rInt .i64))) _ _ _ _ := h200
                          obtain ⟨a_y201, c_y201, rfl, f_y201⟩ := un_sl h200
                          rintro _ ⟨p202, rfl, f203⟩
                          rintro _ rfl
                          rintro _ rfl
                          rintro _ rfl
                          rintro _ rfl
                          have p204 : Step (ks [(some b1, Obj.cells [(Value.int .i64 r_.slots), (Value.slice a_r__owners r_.owners.length c_r__owners), (Value.slice a_r__costs r_.costs.length c_r__costs)].toArray 25)] O) w121 (ks [(some b1, Obj.cells [(Value.int .i64 r_.slots), (Value.slice a_r__owners r_.owners.length c_r__owners), (Value.slice a_r__costs r_.costs.length c_r__costs)].toArray 25)] O) w187 := hst191.trans p192
                          replace f198 := f198.step p192
                          replace f_y201 := f_y201.step p192
                          replace f203 := f203.step p192
                          replace f_r__owners := f_r__owners.step p204
                          replace f_r__costs := f_r__costs.step p204
                          replace f_slots := f_slots.step p204
                          replace f_y41 := f_y41.step p204
                          replace f_y54 := f_y54.step p204
                          replace ch100 := ch100.trans p204
                          replace ch112 := ch112.trans p204
                          replace ch126 := ch126.trans p204
                          clear p204 hs122
                          replace hm := ck_some hm; obtain ⟨hc205, hm⟩ := hm
                          refine Rg_op rfl (op_indexAddr (q := (rInt .i64)) ty22 ty3 rfl rfl f_y201 rfl hc205.1 hc205.2 ?_)
                          intro p206 f207
                          refine Rg_op rfl (op_loadP ty3 rfl f207 rfl ?_)
                          intro v208 h209
                          obtain ⟨rfl, r_y210⟩ := un_int h209
                          refine Rg_op rfl (op_addw rfl rfl ?_)
                          refine Rg_op rfl (op_assign (v := (Value.int .i64 (IntKind.wrap .i64 (sum_1 + ((r_.costs.getD v_4.toNat default).getD (slots.getD v_4.toNat default).toNat default))))) rfl ?_)
                          refine Rg_nil ?_
                          clear f198 f_y201 f203 f207
                          refine Wp_region ?_  -- 22 law.go:193
                          refine Rg_op rfl (op_move (v := (Value.int .i64 own_1)) rfl ?_)
                          refine Rg_op rfl (op_fieldAddr ty25 rfl ty23 (by decide) rfl (rfl : _ = (⟨_, 2, none⟩ : Addr)) ?_)
                          refine Rg_op rfl (op_load (cs := [(Value.int .i64 r_.slots), (Value.slice a_r__owners r_.owners.length c_r__owners), (Value.slice a_r__costs r_.costs.length c_r__costs)]) (i := 0) ty23 hs193 rfl rfl rfl ?_)
                          refine Rg_op rfl (op_move (v := (Value.int .i64 v_4)) rfl ?_)
                          replace hm := ck_some hm; obtain ⟨hc211, hm⟩ := hm
                          refine Rg_op rfl (op_indexAddr (q := (rSl (rInt .i64))) ty23 ty22 rfl rfl f_r__costs rfl hc211.1 hc211.2 ?_)
                          intro p212 f213
                          refine Rg_op rfl (op_loadP ty22 rfl f213 rfl ?_)
                          intro v214 h215
                          obtain ⟨a_y216, c_y216, rfl, f_y216⟩ := un_sl h215
                          refine Rg_op rfl (op_move (v := (Value.int .i64 v_4)) rfl ?_)
                          replace hm := ck_some hm; obtain ⟨hc217, hm⟩ := hm
                          refine Rg_op rfl (op_indexAddr (q := (rInt .i64)) ty22 ty3 rfl rfl f_y216 rfl hc217.1 hc217.2 ?_)
                          intro p218 f219
                          refine Rg_op rfl (op_loadP ty3 rfl f219 rfl ?_)
                          intro v220 h221
                          obtain ⟨rfl, r_y222⟩ := un_int h221
                          refine Rg_op rfl (op_addw rfl rfl ?_)
                          refine Rg_op rfl (op_assign (v := (Value.int .i64 (IntKind.wrap .i64 (own_1 + ((r_.costs.getD v_4.toNat default).getD v_4.toNat default))))) rfl ?_)
                          refine Rg_nil ?_
                          clear f213 f_y216 f219
                          refine Wp_reset2 [13, 14, 15, 16, 89, 90, 91, 92, 93, 94, 95, 96, 97, 98, 99, 100, 101, 102, 103, 104, 105, 106, 107, 108, 109, 110, 111, 112, 113, 114, 115, 116, 117, 118, 119, 120] [] (updL (mix [4, 11, 12, 13, 14, 15, 16, 17, 85, 86, 87, 88, 89, 90, 91, 92, 93, 94, 95, 96, 97, 98, 99, 100, 101, 102, 103, 104, 105, 106, 107, 108, 109, 110, 111, 112, 113, 114, 115, 116, 117, 118, 119, 120, 121, 122, 123, 124, 125, 126, 127, 128, 129, 130, 131, 132, 133, 134, 135, 136, 137, 138, 139, 140, 141, 142, 143, 144, 145, 146, 147, 148] [] ξ116 (updL (mix [4, 11, 12, 13, 14, 15, 16, 17, 83, 84, 85, 86, 87, 88, 89, 90, 91, 92, 93, 94, 95, 96, 97, 98, 99, 100, 101, 102, 103, 104, 105, 106, 107, 108, 109, 110, 111, 112, 113, 114, 115, 116, 117, 118, 119, 120, 121, 122, 123, 124, 125, 126, 127, 128, 129, 130, 131, 132, 133, 134, 135, 136, 137, 138, 139, 140, 141, 142, 143, 144, 145, 146, 147, 148, 149] [] ξ102 (updL ⟨ξ90, []⟩ [(1, (Value.slice a_slots slots.length c_slots)), (2, (Value.pointer (some ⟨b1, 0, none⟩))), (5, (Value.slice a_y41 costs_1.1.length c_y41)), (7, (Value.slice a_y54 worse_1.1.length c_y54)), (11, (Value.int .i64 0)), (83, (Value.int .i64 0))])) [(11, (Value.int .i64 n_1)), (83, (Value.int .i64 v_3))])) [(11, (Value.int .i64 n_1)), (12, (Value.int .i64 v_3)), (13, (Value.int .i64 0)), (14, (Value.int .i64 0)), (87, (Value.slice a_r__owners r_.owners.length c_r__owners)), (88, (Value.int .i64 (r_.owners.length : Int))), (89, (Value.int .i64 0))]) [(13, (Value.int .i64 (IntKind.wrap .i64 (sum_1 + ((r_.costs.getD v_4.toNat default).getD (slots.getD v_4.toNat default).toNat default))))), (14, (Value.int .i64 (IntKind.wrap .i64 (own_1 + ((r_.costs.getD v_4.toNat default).getD v_4.toNat default))))), (89, (Value.int .i64 v_4))] (by repeat (first | with_reducible exact Out.refl _ _ | refine Out.upd ?_ rfl | refine Out.updL ?_ rfl | refine Out.mix' ?_ rfl | exact Out.refl _ _)) rfl ⟨rfl, rfl, rfl, trivial⟩ fun ξ223 => ?_
                          refine Wp_region ?_  -- 23 law.go:190
                          refine Rg_op rfl (op_addw rfl rfl ?_)
                          refine Rg_op rfl (op_move (v := (Value.int .i64 (IntKind.wrap .i64 (v_4 + 1)))) rfl ?_)
                          refine Rg_nil ?_
                          exact hK119 _ _ ⟨(IntKind.wrap .i64 (sum_1 + ((r_.costs.getD v_4.toNat default).getD (slots.getD v_4.toNat default).toNat default))), (IntKind.wrap .i64 (own_1 + ((r_.costs.getD v_4.toNat default).getD v_4.toNat default))), (IntKind.wrap .i64 (v_4 + 1)), _, rfl, ⟨(by repeat (first | with_reducible exact Out.refl _ _ | refine Out.upd ?_ rfl | refine Out.updL ?_ rfl | refine Out.mix' ?_ rfl | exact Out.refl _ _)), rfl, rfl, rfl, rfl, trivial⟩, ch126, hs193, (inK_wrap .i64 _), (inK_wrap .i64 _), (inK_wrap .i64 _), jnE3 hsf118 hm⟩
                        ·
                          replace hm := bif_f hm hc134
                          refine Wp_skip ?_
                          refine Wp_region ?_  -- 23 law.go:190
                          refine Rg_op rfl (op_addw rfl rfl ?_)
                          refine Rg_op rfl (op_move (v := (Value.int .i64 (IntKind.wrap .i64 (v_4 + 1)))) rfl ?_)
                          refine Rg_nil ?_
                          exact hK119 _ _ ⟨sum_1, own_1, (IntKind.wrap .i64 (v_4 + 1)), _, rfl, ⟨(by repeat (first | with_reducible exact Out.refl _ _ | refine Out.upd ?_ rfl | refine Out.updL ?_ rfl | refine Out.mix' ?_ rfl | exact Out.refl _ _)), rfl, rfl, rfl, rfl, trivial⟩, ch126, hs122, r_y113, r_y114, (inK_wrap .i64 _), jnE3 hsf118 hm⟩
                      ·
                        replace hm := bif_f hm hc127
                        refine Wp_exit ?_
                        refine Wp_reset2 [4, 11, 12, 13, 14, 15, 16, 17, 85, 86, 87, 88, 89, 90, 91, 92, 93, 94, 95, 96, 97, 98, 99, 100, 101, 102, 103, 104, 105, 106, 107, 108, 109, 110, 111, 112, 113, 114, 115, 116, 117, 118, 119, 120, 121, 122, 123, 124, 125, 126, 127, 128, 129, 130, 131, 132, 133, 134, 135, 136, 137, 138, 139, 140, 141, 142, 143, 144, 145, 146, 147, 148] [] (updL (mix [4, 11, 12, 13, 14, 15, 16, 17, 83, 84, 85, 86, 87, 88, 89, 90, 91, 92, 93, 94, 95, 96, 97, 98, 99, 100, 101, 102, 103, 104, 105, 106, 107, 108, 109, 110, 111, 112, 113, 114, 115, 116, 117, 118, 119, 120, 121, 122, 123, 124, 125, 126, 127, 128, 129, 130, 131, 132, 133, 134, 135, 136, 137, 138, 139, 140, 141, 142, 143, 144, 145, 146, 147, 148, 149] [] ξ102 (updL ⟨ξ90, []⟩ [(1, (Value.slice a_slots slots.length c_slots)), (2, (Value.pointer (some ⟨b1, 0, none⟩))), (5, (Value.slice a_y41 costs_1.1.length c_y41)), (7, (Value.slice a_y54 worse_1.1.length c_y54)), (11, (Value.int .i64 0)), (83, (Value.int .i64 0))])) [(11, (Value.int .i64 n_1)), (83, (Value.int .i64 v_3))]) [(11, (Value.int .i64 n_1)), (12, (Value.int .i64 v_3)), (13, (Value.int .i64 sum_1)), (14, (Value.int .i64 own_1))] (by repeat (first | with_reducible exact Out.refl _ _ | refine Out.upd ?_ rfl | refine Out.updL ?_ rfl | refine Out.mix' ?_ rfl | exact Out.refl _ _)) rfl ⟨rfl, rfl, rfl, rfl, trivial⟩ fun ξ224 => ?_
                        replace hm := jn_elim hm; obtain ⟨k226, hk227, hm⟩ := hm
                        refine Wp_seqJ [17, 121, 122, 123, 124, 125, 126, 127, 128, 129, 130, 131, 132] (fun fr w' => ∃ (worse_2 : Bool) (Ebs : Ents), Ebs = [(some b1, Obj.cells [(Value.int .i64 r_.slots), (Value.slice a_r__owners r_.owners.length c_r__owners), (Value.slice a_r__costs r_.costs.length c_r__costs)].toArray 25)] ∧ fr [] [(17, (Value.bool worse_2))] ∧ Step (ks [(some b1, Obj.cells [(Value.int .i64 r_.slots), (Value.slice a_r__owners r_.owners.length c_r__owners), (Value.slice a_r__costs r_.costs.length c_r__costs)].toArray 25)] O) w121 (ks Ebs O) w' ∧ St ⟨w, [], []⟩ O w' Ebs ∧ k226 worse_2 = some x) ?_ ?_
                        ·
                          rintro ρ233 w229 ⟨worse_2, Ebs, hEbs, hfr232, hst231, hs230, hm⟩
                          replace hm := jnE1 hk227 hm
                          subst hEbs; rw [hfr232.eq]; clear hfr232
                          replace f_r__owners := f_r__owners.step hst231
                          replace f_r__costs := f_r__costs.step hst231
                          replace f_slots := f_slots.step hst231
                          replace f_y41 := f_y41.step hst231
                          replace f_y54 := f_y54.step hst231
                          replace ch100 := ch100.trans hst231
                          replace ch112 := ch112.trans hst231
                          replace ch126 := ch126.trans hst231
                          clear hst231 hs122
                          refine Wp_seq ?_
                          refine Wp_seq ?_
                          refine Wp_region ?_  -- 25 law.go:197
                          refine Rg_op rfl (op_move (v := (Value.bool worse_2)) rfl ?_)
                          refine Rg_nil ?_
                          refine Wp_cond rfl (fun hc234 => ?_) (fun hc234 => ?_)
                          ·
                            replace hm := bif_t hm hc234
                            refine Wp_region ?_  -- 26 law.go:198
                            refine Rg_op rfl (op_move (v := (Value.int .i64 n_1)) rfl ?_)
                            refine Rg_op rfl (op_addw rfl rfl ?_)
                            refine Rg_op rfl (op_assign (v := (Value.int .i64 (IntKind.wrap .i64 (n_1 + 1)))) rfl ?_)
                            refine Rg_nil ?_
                            refine Wp_reset2 [4, 11, 12, 13, 14, 15, 16, 17, 85, 86, 87, 88, 89, 90, 91, 92, 93, 94, 95, 96, 97, 98, 99, 100, 101, 102, 103, 104, 105, 106, 107, 108, 109, 110, 111, 112, 113, 114, 115, 116, 117, 118, 119, 120, 121, 122, 123, 124, 125, 126, 127, 128, 129, 130, 131, 132, 133, 134, 135, 136, 137, 138, 139, 140, 141, 142, 143, 144, 145, 146, 147, 148] [] (updL (mix [4, 11, 12, 13, 14, 15, 16, 17, 83, 84, 85, 86, 87, 88, 89, 90, 91, 92, 93, 94, 95, 96, 97, 98, 99, 100, 101, 102, 103, 104, 105, 106, 107, 108, 109, 110, 111, 112, 113, 114, 115, 116, 117, 118, 119, 120, 121, 122, 123, 124, 125, 126, 127, 128, 129, 130, 131, 132, 133, 134, 135, 136, 137, 138, 139, 140, 141, 142, 143, 144, 145, 146, 147, 148, 149] [] ξ102 (updL ⟨ξ90, []⟩ [(1, (Value.slice a_slots slots.length c_slots)), (2, (Value.pointer (some ⟨b1, 0, none⟩))), (5, (Value.slice a_y41 costs_1.1.length c_y41)), (7, (Value.slice a_y54 worse_1.1.length c_y54)), (11, (Value.int .i64 0)), (83, (Value.int .i64 0))])) [(11, (Value.int .i64 n_1)), (83, (Value.int .i64 v_3))]) [(11, (Value.int .i64 (IntKind.wrap .i64 (n_1 + 1)))), (12, (Value.int .i64 v_3)), (13, (Value.int .i64 sum_1)), (14, (Value.int .i64 own_1)), (17, (Value.bool worse_2))] (by repeat (first | with_reducible exact Out.refl _ _ | refine Out.upd ?_ rfl | refine Out.updL ?_ rfl | refine Out.mix' ?_ rfl | exact Out.refl _ _)) rfl ⟨rfl, rfl, rfl, rfl, rfl, trivial⟩ fun ξ235 => ?_
                            replace hm := jn_elim hm; obtain ⟨k237, hk238, hm⟩ := hm
                            refine Wp_seqJ [136, 137, 138, 139, 140, 141, 142, 143, 144, 145, 146, 147, 148] (fun fr w' => ∃ (v_5 : Bool) (Ebs : Ents), Ebs = [(some b1, Obj.cells [(Value.int .i64 r_.slots), (Value.slice a_r__owners r_.owners.length c_r__owners), (Value.slice a_r__costs r_.costs.length c_r__costs)].toArray 25)] ∧ fr [] [(148, (Value.bool v_5))] ∧ Step (ks [(some b1, Obj.cells [(Value.int .i64 r_.slots), (Value.slice a_r__owners r_.owners.length c_r__owners), (Value.slice a_r__costs r_.costs.length c_r__costs)].toArray 25)] O) w229 (ks Ebs O) w' ∧ St ⟨w, [], []⟩ O w' Ebs ∧ k237 v_5 = some x) ?_ ?_
                            ·
                              rintro ρ244 w240 ⟨v_5, Ebs, hEbs, hfr243, hst242, hs241, hm⟩
                              replace hm := jnE1 hk238 hm
                              subst hEbs; rw [hfr243.eq]; clear hfr243
                              replace f_r__owners := f_r__owners.step hst242
                              replace f_r__costs := f_r__costs.step hst242
                              replace f_slots := f_slots.step hst242
                              replace f_y41 := f_y41.step hst242
                              replace f_y54 := f_y54.step hst242
                              replace ch100 := ch100.trans hst242
                              replace ch112 := ch112.trans hst242
                              replace ch126 := ch126.trans hst242
                              clear hst242 hs230
                              refine Wp_cond rfl (fun hc245 => ?_) (fun hc245 => ?_)
                              ·
                                replace hm := bif_t hm hc245
                                refine Wp_seq ?_
                                clear f_slots f_y41 f_y54
                                refine Wp_region ?_  -- 28 law.go:201
                                refine Rg_op rfl (op_assign (v := (Value.bool false)) rfl ?_)
                                refine Rg_nil ?_
                                refine Wp_ret ?_
                                have hz := step_all hs241
                                replace f_r__owners := f_r__owners.step hz
                                replace f_r__costs := f_r__costs.step hz
                                refine ⟨_, (show Closes [] _ _ from rfl), [(Value.bool false)], ⟨rfl, trivial⟩, hs241.ext, ?_⟩
                                exact Vr.eq (a := vB) (x := false) rfl (Option.some.inj hm)
                              ·
                                replace hm := bif_f hm hc245
                                refine Wp_skip ?_
                                exact hK106 _ _ ⟨(IntKind.wrap .i64 (n_1 + 1)), _, rfl, ⟨(by repeat (first | with_reducible exact Out.refl _ _ | refine Out.upd ?_ rfl | refine Out.updL ?_ rfl | refine Out.mix' ?_ rfl | exact Out.refl _ _)), rfl, rfl, trivial⟩, ch112, hs241, (inK_wrap .i64 _), hm⟩
                            ·
                              intro K239 hK239
                              have ch246 := Step.refl (ks [(some b1, Obj.cells [(Value.int .i64 r_.slots), (Value.slice a_r__owners r_.owners.length c_r__owners), (Value.slice a_r__costs r_.costs.length c_r__costs)].toArray 25)] O) w229
                              refine Wp_region ?_  -- 27 law.go:200
                              refine Rg_op rfl (op_move (v := (Value.slice a_y41 costs_1.1.length c_y41)) rfl ?_)
                              refine Rg_op rfl (op_move (v := (Value.int .i64 v_3)) rfl ?_)
                              replace hm := ck_some hm; obtain ⟨hc247, hm⟩ := hm
                              refine Rg_op rfl (op_indexAddr (q := (rInt .i64)) ty22 ty3 rfl rfl f_y41 rfl hc247.1 hc247.2 ?_)
                              intro p248 f249
                              refine Rg_op rfl (op_loadP ty3 rfl f249 rfl ?_)
                              intro v250 h251
                              obtain ⟨rfl, r_y252⟩ := un_int h251
                              refine Rg_op rfl (op_move (v := (Value.int .i64 sum_1)) rfl ?_)
                              refine Rg_op rfl (op_neq rfl rfl ?_)
                              refine Rg_op rfl (op_move (v := (Value.bool (decide ((costs_1.1.getD v_3.toNat default) ≠ sum_1)))) rfl ?_)
                              refine Rg_case (fun hg253 => ?_) (fun hg253 => ?_)
                              ·
                                replace hm := bif_t hm hg253
                                refine Rg_opx rfl (asB_ne rfl rfl) rfl ?_
                                refine Rg_opx rfl (asB_ne rfl rfl) rfl ?_
                                refine Rg_opx rfl (asB_ne rfl rfl) rfl ?_
                                refine Rg_opx rfl (asB_ne rfl rfl) rfl ?_
                                refine Rg_opx rfl (asB_ne rfl rfl) rfl ?_
                                refine Rg_op rfl (op_pick_t (v := (Value.bool true)) rfl rfl ?_)
                                refine Rg_nil ?_
                                exact hK239 _ _ ⟨true, _, rfl, ⟨(by repeat (first | with_reducible exact Out.refl _ _ | refine Out.upd ?_ rfl | refine Out.updL ?_ rfl | refine Out.mix' ?_ rfl | exact Out.refl _ _)), rfl, rfl, trivial⟩, ch246, hs230, hm⟩
                              ·
                                replace hm := bif_f hm hg253
                                refine Rg_opg rfl rfl rfl (op_move (v := (Value.bool worse_2)) rfl ?_)
                                refine Rg_opg rfl rfl rfl (op_move (v := (Value.int .i64 sum_1)) rfl ?_)
                                refine Rg_opg rfl rfl rfl (op_move (v := (Value.int .i64 own_1)) rfl ?_)
                                refine Rg_opg rfl rfl rfl (op_gtr rfl rfl ?_)
                                refine Rg_opg rfl rfl rfl (op_neqb Try.underlying4 rfl rfl ?_)
                                refine Rg_op rfl (op_pick_f (v := (Value.bool (!(worse_2 == (decide (own_1 < sum_1)))))) rfl rfl ?_)
                                refine Rg_nil ?_
                                exact hK239 _ _ ⟨(!(worse_2 == (decide (own_1 < sum_1)))), _, rfl, ⟨(by repeat (first | with_reducible exact Out.refl _ _ | refine Out.upd ?_ rfl | refine Out.updL ?_ rfl | refine Out.mix' ?_ rfl | exact Out.refl _ _)), rfl, rfl, trivial⟩, ch246, hs230, hm⟩
                          ·
                            replace hm := bif_f hm hc234
                            refine Wp_skip ?_
                            refine Wp_reset2 [4, 11, 12, 13, 14, 15, 16, 17, 85, 86, 87, 88, 89, 90, 91, 92, 93, 94, 95, 96, 97, 98, 99, 100, 101, 102, 103, 104, 105, 106, 107, 108, 109, 110, 111, 112, 113, 114, 115, 116, 117, 118, 119, 120, 121, 122, 123, 124, 125, 126, 127, 128, 129, 130, 131, 132, 133, 134, 135, 136, 137, 138, 139, 140, 141, 142, 143, 144, 145, 146, 147, 148] [] (updL (mix [4, 11, 12, 13, 14, 15, 16, 17, 83, 84, 85, 86, 87, 88, 89, 90, 91, 92, 93, 94, 95, 96, 97, 98, 99, 100, 101, 102, 103, 104, 105, 106, 107, 108, 109, 110, 111, 112, 113, 114, 115, 116, 117, 118, 119, 120, 121, 122, 123, 124, 125, 126, 127, 128, 129, 130, 131, 132, 133, 134, 135, 136, 137, 138, 139, 140, 141, 142, 143, 144, 145, 146, 147, 148, 149] [] ξ102 (updL ⟨ξ90, []⟩ [(1, (Value.slice a_slots slots.length c_slots)), (2, (Value.pointer (some ⟨b1, 0, none⟩))), (5, (Value.slice a_y41 costs_1.1.length c_y41)), (7, (Value.slice a_y54 worse_1.1.length c_y54)), (11, (Value.int .i64 0)), (83, (Value.int .i64 0))])) [(11, (Value.int .i64 n_1)), (83, (Value.int .i64 v_3))]) [(11, (Value.int .i64 n_1)), (12, (Value.int .i64 v_3)), (13, (Value.int .i64 sum_1)), (14, (Value.int .i64 own_1)), (17, (Value.bool worse_2))] (by repeat (first | with_reducible exact Out.refl _ _ | refine Out.upd ?_ rfl | refine Out.updL ?_ rfl | refine Out.mix' ?_ rfl | exact Out.refl _ _)) rfl ⟨rfl, rfl, rfl, rfl, rfl, trivial⟩ fun ξ254 => ?_
                            replace hm := jn_elim hm; obtain ⟨k256, hk257, hm⟩ := hm
                            refine Wp_seqJ [136, 137, 138, 139, 140, 141, 142, 143, 144, 145, 146, 147, 148] (fun fr w' => ∃ (v_6 : Bool) (Ebs : Ents), Ebs = [(some b1, Obj.cells [(Value.int .i64 r_.slots), (Value.slice a_r__owners r_.owners.length c_r__owners), (Value.slice a_r__costs r_.costs.length c_r__costs)].toArray 25)] ∧ fr [] [(148, (Value.bool v_6))] ∧ Step (ks [(some b1, Obj.cells [(Value.int .i64 r_.slots), (Value.slice a_r__owners r_.owners.length c_r__owners), (Value.slice a_r__costs r_.costs.length c_r__costs)].toArray 25)] O) w229 (ks Ebs O) w' ∧ St ⟨w, [], []⟩ O w' Ebs ∧ k256 v_6 = some x) ?_ ?_
                            ·
                              rintro ρ263 w259 ⟨v_6, Ebs, hEbs, hfr262, hst261, hs260, hm⟩
                              replace hm := jnE1 hk257 hm
                              subst hEbs; rw [hfr262.eq]; clear hfr262
                              replace f_r__owners := f_r__owners.step hst261
                              replace f_r__costs := f_r__costs.step hst261
                              replace f_slots := f_slots.step hst261
                              replace f_y41 := f_y41.step hst261
                              replace f_y54 := f_y54.step hst261
                              replace ch100 := ch100.trans hst261
                              replace ch112 := ch112.trans hst261
                              replace ch126 := ch126.trans hst261
                              clear hst261 hs230
                              refine Wp_cond rfl (fun hc264 => ?_) (fun hc264 => ?_)
                              ·
                                replace hm := bif_t hm hc264
                                refine Wp_seq ?_
                                clear f_slots f_y41 f_y54
                                refine Wp_region ?_  -- 28 law.go:201
                                refine Rg_op rfl (op_assign (v := (Value.bool false)) rfl ?_)
                                refine Rg_nil ?_
                                refine Wp_ret ?_
                                have hz := step_all hs260
                                replace f_r__owners := f_r__owners.step hz
                                replace f_r__costs := f_r__costs.step hz
                                refine ⟨_, (show Closes [] _ _ from rfl), [(Value.bool false)], ⟨rfl, trivial⟩, hs260.ext, ?_⟩
                                exact Vr.eq (a := vB) (x := false) rfl (Option.some.inj hm)
                              ·
                                replace hm := bif_f hm hc264
                                refine Wp_skip ?_
                                exact hK106 _ _ ⟨n_1, _, rfl, ⟨(by repeat (first | with_reducible exact Out.refl _ _ | refine Out.upd ?_ rfl | refine Out.updL ?_ rfl | refine Out.mix' ?_ rfl | exact Out.refl _ _)), rfl, rfl, trivial⟩, ch112, hs260, r_y88, hm⟩
                            ·
                              intro K258 hK258
                              have ch265 := Step.refl (ks [(some b1, Obj.cells [(Value.int .i64 r_.slots), (Value.slice a_r__owners r_.owners.length c_r__owners), (Value.slice a_r__costs r_.costs.length c_r__costs)].toArray 25)] O) w229
                              refine Wp_region ?_  -- 27 law.go:200
                              refine Rg_op rfl (op_move (v := (Value.slice a_y41 costs_1.1.length c_y41)) rfl ?_)
                              refine Rg_op rfl (op_move (v := (Value.int .i64 v_3)) rfl ?_)
                              replace hm := ck_some hm; obtain ⟨hc266, hm⟩ := hm
                              refine Rg_op rfl (op_indexAddr (q := (rInt .i64)) ty22 ty3 rfl rfl f_y41 rfl hc266.1 hc266.2 ?_)
                              intro p267 f268
                              refine Rg_op rfl (op_loadP ty3 rfl f268 rfl ?_)
                              intro v269 h270
                              obtain ⟨rfl, r_y271⟩ := un_int h270
                              refine Rg_op rfl (op_move (v := (Value.int .i64 sum_1)) rfl ?_)
                              refine Rg_op rfl (op_neq rfl rfl ?_)
                              refine Rg_op rfl (op_move (v := (Value.bool (decide ((costs_1.1.getD v_3.toNat default) ≠ sum_1)))) rfl ?_)
                              refine Rg_case (fun hg272 => ?_) (fun hg272 => ?_)
                              ·
                                replace hm := bif_t hm hg272
                                refine Rg_opx rfl (asB_ne rfl rfl) rfl ?_
                                refine Rg_opx rfl (asB_ne rfl rfl) rfl ?_
                                refine Rg_opx rfl (asB_ne rfl rfl) rfl ?_
                                refine Rg_opx rfl (asB_ne rfl rfl) rfl ?_
                                refine Rg_opx rfl (asB_ne rfl rfl) rfl ?_
                                refine Rg_op rfl (op_pick_t (v := (Value.bool true)) rfl rfl ?_)
                                refine Rg_nil ?_
                                exact hK258 _ _ ⟨true, _, rfl, ⟨(by repeat (first | with_reducible exact Out.refl _ _ | refine Out.upd ?_ rfl | refine Out.updL ?_ rfl | refine Out.mix' ?_ rfl | exact Out.refl _ _)), rfl, rfl, trivial⟩, ch265, hs230, hm⟩
                              ·
                                replace hm := bif_f hm hg272
                                refine Rg_opg rfl rfl rfl (op_move (v := (Value.bool worse_2)) rfl ?_)
                                refine Rg_opg rfl rfl rfl (op_move (v := (Value.int .i64 sum_1)) rfl ?_)
                                refine Rg_opg rfl rfl rfl (op_move (v := (Value.int .i64 own_1)) rfl ?_)
                                refine Rg_opg rfl rfl rfl (op_gtr rfl rfl ?_)
                                refine Rg_opg rfl rfl rfl (op_neqb Try.underlying4 rfl rfl ?_)
                                refine Rg_op rfl (op_pick_f (v := (Value.bool (!(worse_2 == (decide (own_1 < sum_1)))))) rfl rfl ?_)
                                refine Rg_nil ?_
                                exact hK258 _ _ ⟨(!(worse_2 == (decide (own_1 < sum_1)))), _, rfl, ⟨(by repeat (first | with_reducible exact Out.refl _ _ | refine Out.upd ?_ rfl | refine Out.updL ?_ rfl | refine Out.mix' ?_ rfl | exact Out.refl _ _)), rfl, rfl, trivial⟩, ch265, hs230, hm⟩
                        ·
                          intro K228 hK228
                          have ch273 := Step.refl (ks [(some b1, Obj.cells [(Value.int .i64 r_.slots), (Value.slice a_r__owners r_.owners.length c_r__owners), (Value.slice a_r__costs r_.costs.length c_r__costs)].toArray 25)] O) w121
                          refine Wp_region ?_  -- 24 law.go:196
                          refine Rg_op rfl (op_move (v := (Value.int .i64 n_1)) rfl ?_)
                          refine Rg_op rfl (op_move (v := (Value.slice a_y54 worse_1.1.length c_y54)) rfl ?_)
                          refine Rg_op rfl (op_len Try.underlying22 rfl ?_)
                          refine Rg_op rfl (op_lss rfl rfl ?_)
                          refine Rg_op rfl (op_move (v := (Value.bool (decide (n_1 < (worse_1.1.length : Int))))) rfl ?_)
                          refine Rg_case (fun hg274 => ?_) (fun hg274 => ?_)
                          ·
                            replace hm := bif_t hm hg274
                            refine Rg_opg rfl rfl rfl (op_move (v := (Value.slice a_y54 worse_1.1.length c_y54)) rfl ?_)
                            refine Rg_opg rfl rfl rfl (op_move (v := (Value.int .i64 n_1)) rfl ?_)
                            replace hm := ck_some hm; obtain ⟨hc275, hm⟩ := hm
                            refine Rg_opg rfl rfl rfl (op_indexAddr (q := (rInt .i64)) ty22 ty3 rfl rfl f_y54 rfl hc275.1 hc275.2 ?_)
                            intro p276 f277
                            refine Rg_opg rfl rfl rfl (op_loadP ty3 rfl f277 rfl ?_)
                            intro v278 h279
                            obtain ⟨rfl, r_y280⟩ := un_int h279
                            refine Rg_opg rfl rfl rfl (op_move (v := (Value.int .i64 v_3)) rfl ?_)
                            refine Rg_opg rfl rfl rfl (op_eql rfl rfl ?_)
                            refine Rg_op rfl (op_pick_t (v := (Value.bool (decide ((worse_1.1.getD n_1.toNat default) = v_3)))) rfl rfl ?_)
                            refine Rg_op rfl (op_assign (v := (Value.bool (decide ((worse_1.1.getD n_1.toNat default) = v_3)))) rfl ?_)
                            refine Rg_nil ?_
                            exact hK228 _ _ ⟨(decide ((worse_1.1.getD n_1.toNat default) = v_3)), _, rfl, ⟨(by repeat (first | with_reducible exact Out.refl _ _ | refine Out.upd ?_ rfl | refine Out.updL ?_ rfl | refine Out.mix' ?_ rfl | exact Out.refl _ _)), rfl, rfl, trivial⟩, ch273, hs122, hm⟩
                          ·
                            replace hm := bif_f hm hg274
                            refine Rg_opx rfl (asB_ne rfl rfl) rfl ?_
                            refine Rg_opx rfl (asB_ne rfl rfl) rfl ?_
                            refine Rg_opx rfl (asB_ne rfl rfl) rfl ?_
                            refine Rg_opx rfl (asB_ne rfl rfl) rfl ?_
                            refine Rg_opx rfl (asB_ne rfl rfl) rfl ?_
                            refine Rg_opx rfl (asB_ne rfl rfl) rfl ?_
                            refine Rg_op rfl (op_pick_f (v := (Value.bool false)) rfl rfl ?_)
                            refine Rg_op rfl (op_assign (v := (Value.bool false)) rfl ?_)
                            refine Rg_nil ?_
                            exact hK228 _ _ ⟨false, _, rfl, ⟨(by repeat (first | with_reducible exact Out.refl _ _ | refine Out.upd ?_ rfl | refine Out.updL ?_ rfl | refine Out.mix' ?_ rfl | exact Out.refl _ _)), rfl, rfl, trivial⟩, ch273, hs122, hm⟩
                ·
                  replace hm := bif_f hm hc101
                  refine Wp_exit ?_
                  refine Wp_seq ?_
                  obtain ⟨hs281, p282⟩ := hs96.sub (bs' := []) (.cons _ List.Sublist.slnil)
                  clear f_r__owners f_r__costs f_slots f_y41
                  replace f_y54 := f_y54.step p282
                  replace ch100 := ch100.trans p282
                  clear p282 hs96
                  refine Wp_region ?_  -- 30 law.go:204
                  refine Rg_op rfl (op_move (v := (Value.int .i64 n_1)) rfl ?_)
                  refine Rg_op rfl (op_move (v := (Value.slice a_y54 worse_1.1.length c_y54)) rfl ?_)
                  refine Rg_op rfl (op_len Try.underlying22 rfl ?_)
                  refine Rg_op rfl (op_eql rfl rfl ?_)
                  refine Rg_op rfl (op_assign (v := (Value.bool (decide (n_1 = (worse_1.1.length : Int))))) rfl ?_)
                  refine Rg_nil ?_
                  refine Wp_ret ?_
                  have hz := step_all hs281
                  replace f_y54 := f_y54.step hz
                  refine ⟨_, (show Closes [] _ _ from rfl), [(Value.bool (decide (n_1 = (worse_1.1.length : Int))))], ⟨rfl, trivial⟩, hs281.ext, ?_⟩
                  exact Vr.eq (a := vB) (x := (decide (n_1 = (worse_1.1.length : Int)))) rfl (Option.some.inj hm)
          ·
            intro K79 hK79
            have ch283 := Step.refl (ks [(some b1, Obj.cells [(Value.int .i64 r_.slots), (Value.slice a_r__owners r_.owners.length c_r__owners), (Value.slice a_r__costs r_.costs.length c_r__costs)].toArray 25)] O) w58
            refine Wp_region ?_  -- 10 law.go:184
            refine Rg_op rfl (op_move (v := (Value.int .i64 worse_1.2)) rfl ?_)
            refine Rg_op rfl (op_neq rfl rfl ?_)
            refine Rg_op rfl (op_move (v := (Value.bool (decide (worse_1.2 ≠ 0)))) rfl ?_)
            refine Rg_case (fun hg284 => ?_) (fun hg284 => ?_)
            ·
              replace hm := bif_t hm hg284
              refine Rg_opx rfl (asB_ne rfl rfl) rfl ?_
              refine Rg_opx rfl (asB_ne rfl rfl) rfl ?_
              refine Rg_op rfl (op_pick_t (v := (Value.bool true)) rfl rfl ?_)
              refine Rg_op rfl (op_move (v := (Value.bool true)) rfl ?_)
              refine Rg_opx rfl (asB_ne rfl rfl) rfl ?_
              refine Rg_opx rfl (asB_ne rfl rfl) rfl ?_
              refine Rg_op rfl (op_pick_t (v := (Value.bool true)) rfl rfl ?_)
              refine Rg_op rfl (op_move (v := (Value.bool true)) rfl ?_)
              refine Rg_opx rfl (asB_ne rfl rfl) rfl ?_
              refine Rg_opx rfl (asB_ne rfl rfl) rfl ?_
              refine Rg_opx rfl (asB_ne rfl rfl) rfl ?_
              refine Rg_op rfl (op_pick_t (v := (Value.bool true)) rfl rfl ?_)
              refine Rg_op rfl (op_move (v := (Value.bool true)) rfl ?_)
              refine Rg_opx rfl (asB_ne rfl rfl) rfl ?_
              refine Rg_opx rfl (asB_ne rfl rfl) rfl ?_
              refine Rg_opx rfl (asB_ne rfl rfl) rfl ?_
              refine Rg_opx rfl (asB_ne rfl rfl) rfl ?_
              refine Rg_opx rfl (asB_ne rfl rfl) rfl ?_
              refine Rg_opx rfl (asB_ne rfl rfl) rfl ?_
              refine Rg_op rfl (op_pick_t (v := (Value.bool true)) rfl rfl ?_)
              refine Rg_nil ?_
              exact hK79 _ _ ⟨true, _, rfl, ⟨(by repeat (first | with_reducible exact Out.refl _ _ | refine Out.upd ?_ rfl | refine Out.updL ?_ rfl | refine Out.mix' ?_ rfl | exact Out.refl _ _)), rfl, rfl, trivial⟩, ch283, hs61, hm⟩
            ·
              replace hm := bif_f hm hg284
              refine Rg_opg rfl rfl rfl (op_move (v := (Value.int .i64 allowed_1.2)) rfl ?_)
              refine Rg_opg rfl rfl rfl (op_neq rfl rfl ?_)
              refine Rg_op rfl (op_pick_f (v := (Value.bool (decide (allowed_1.2 ≠ 0)))) rfl rfl ?_)
              refine Rg_op rfl (op_move (v := (Value.bool (decide (allowed_1.2 ≠ 0)))) rfl ?_)
              refine Rg_case (fun hg285 => ?_) (fun hg285 => ?_)
              ·
                replace hm := bif_t hm hg285
                refine Rg_opx rfl (asB_ne rfl rfl) rfl ?_
                refine Rg_opx rfl (asB_ne rfl rfl) rfl ?_
                refine Rg_op rfl (op_pick_t (v := (Value.bool true)) rfl rfl ?_)
                refine Rg_op rfl (op_move (v := (Value.bool true)) rfl ?_)
                refine Rg_opx rfl (asB_ne rfl rfl) rfl ?_
                refine Rg_opx rfl (asB_ne rfl rfl) rfl ?_
                refine Rg_opx rfl (asB_ne rfl rfl) rfl ?_
                refine Rg_op rfl (op_pick_t (v := (Value.bool true)) rfl rfl ?_)
                refine Rg_op rfl (op_move (v := (Value.bool true)) rfl ?_)
                refine Rg_opx rfl (asB_ne rfl rfl) rfl ?_
                refine Rg_opx rfl (asB_ne rfl rfl) rfl ?_
                refine Rg_opx rfl (asB_ne rfl rfl) rfl ?_
                refine Rg_opx rfl (asB_ne rfl rfl) rfl ?_
                refine Rg_opx rfl (asB_ne rfl rfl) rfl ?_
                refine Rg_opx rfl (asB_ne rfl rfl) rfl ?_
                refine Rg_op rfl (op_pick_t (v := (Value.bool true)) rfl rfl ?_)
                refine Rg_nil ?_
                exact hK79 _ _ ⟨true, _, rfl, ⟨(by repeat (first | with_reducible exact Out.refl _ _ | refine Out.upd ?_ rfl | refine Out.updL ?_ rfl | refine Out.mix' ?_ rfl | exact Out.refl _ _)), rfl, rfl, trivial⟩, ch283, hs61, hm⟩
              ·
                replace hm := bif_f hm hg285
                refine Rg_opg rfl rfl rfl (op_move (v := (Value.bool allowed_1.1)) rfl ?_)
                refine Rg_opg rfl rfl rfl (op_not rfl ?_)
                refine Rg_op rfl (op_pick_f (v := (Value.bool (!allowed_1.1))) rfl rfl ?_)
                refine Rg_op rfl (op_move (v := (Value.bool (!allowed_1.1))) rfl ?_)
                refine Rg_case (fun hg286 => ?_) (fun hg286 => ?_)
                ·
                  replace hm := bif_t hm hg286
                  refine Rg_opx rfl (asB_ne rfl rfl) rfl ?_
                  refine Rg_opx rfl (asB_ne rfl rfl) rfl ?_
                  refine Rg_opx rfl (asB_ne rfl rfl) rfl ?_
                  refine Rg_op rfl (op_pick_t (v := (Value.bool true)) rfl rfl ?_)
                  refine Rg_op rfl (op_move (v := (Value.bool true)) rfl ?_)
                  refine Rg_opx rfl (asB_ne rfl rfl) rfl ?_
                  refine Rg_opx rfl (asB_ne rfl rfl) rfl ?_
                  refine Rg_opx rfl (asB_ne rfl rfl) rfl ?_
                  refine Rg_opx rfl (asB_ne rfl rfl) rfl ?_
                  refine Rg_opx rfl (asB_ne rfl rfl) rfl ?_
                  refine Rg_opx rfl (asB_ne rfl rfl) rfl ?_
                  refine Rg_op rfl (op_pick_t (v := (Value.bool true)) rfl rfl ?_)
                  refine Rg_nil ?_
                  exact hK79 _ _ ⟨true, _, rfl, ⟨(by repeat (first | with_reducible exact Out.refl _ _ | refine Out.upd ?_ rfl | refine Out.updL ?_ rfl | refine Out.mix' ?_ rfl | exact Out.refl _ _)), rfl, rfl, trivial⟩, ch283, hs61, hm⟩
                ·
                  replace hm := bif_f hm hg286
                  refine Rg_opg rfl rfl rfl (op_move (v := (Value.slice a_y41 costs_1.1.length c_y41)) rfl ?_)
                  refine Rg_opg rfl rfl rfl (op_len Try.underlying22 rfl ?_)
                  refine Rg_opg rfl rfl rfl (op_neq rfl rfl ?_)
                  refine Rg_op rfl (op_pick_f (v := (Value.bool (decide ((costs_1.1.length : Int) ≠ 8)))) rfl rfl ?_)
                  refine Rg_op rfl (op_move (v := (Value.bool (decide ((costs_1.1.length : Int) ≠ 8)))) rfl ?_)
                  refine Rg_case (fun hg287 => ?_) (fun hg287 => ?_)
                  ·
                    replace hm := bif_t hm hg287
                    refine Rg_opx rfl (asB_ne rfl rfl) rfl ?_
                    refine Rg_opx rfl (asB_ne rfl rfl) rfl ?_
                    refine Rg_opx rfl (asB_ne rfl rfl) rfl ?_
                    refine Rg_opx rfl (asB_ne rfl rfl) rfl ?_
                    refine Rg_opx rfl (asB_ne rfl rfl) rfl ?_
                    refine Rg_opx rfl (asB_ne rfl rfl) rfl ?_
                    refine Rg_op rfl (op_pick_t (v := (Value.bool true)) rfl rfl ?_)
                    refine Rg_nil ?_
                    exact hK79 _ _ ⟨true, _, rfl, ⟨(by repeat (first | with_reducible exact Out.refl _ _ | refine Out.upd ?_ rfl | refine Out.updL ?_ rfl | refine Out.mix' ?_ rfl | exact Out.refl _ _)), rfl, rfl, trivial⟩, ch283, hs61, hm⟩
                  ·
                    replace hm := bif_f hm hg287
                    refine Rg_opg rfl rfl rfl (op_move (v := (Value.slice a_slots slots.length c_slots)) rfl ?_)
                    refine Rg_opg rfl rfl rfl (op_len Try.underlying22 rfl ?_)
                    refine Rg_opg rfl rfl rfl (op_fieldAddr ty25 rfl ty22 (by decide) rfl (rfl : _ = (⟨_, 1, none⟩ : Addr)) ?_)
                    refine Rg_opg rfl rfl rfl (op_load (cs := [(Value.int .i64 r_.slots), (Value.slice a_r__owners r_.owners.length c_r__owners), (Value.slice a_r__costs r_.costs.length c_r__costs)]) (i := 0) ty22 hs61 rfl rfl rfl ?_)
                    refine Rg_opg rfl rfl rfl (op_len Try.underlying22 rfl ?_)
                    refine Rg_opg rfl rfl rfl (op_neq rfl rfl ?_)
                    refine Rg_op rfl (op_pick_f (v := (Value.bool (decide ((slots.length : Int) ≠ (r_.owners.length : Int))))) rfl rfl ?_)
                    refine Rg_nil ?_
                    exact hK79 _ _ ⟨(decide ((slots.length : Int) ≠ (r_.owners.length : Int))), _, rfl, ⟨(by repeat (first | with_reducible exact Out.refl _ _ | refine Out.upd ?_ rfl | refine Out.updL ?_ rfl | refine Out.mix' ?_ rfl | exact Out.refl _ _)), rfl, rfl, trivial⟩, ch283, hs61, hm⟩
    ·
      intro K21 hK21
      have ch288 := Step.refl (ks [(some b1, Obj.cells [(Value.int .i64 r_.slots), (Value.slice a_r__owners r_.owners.length c_r__owners), (Value.slice a_r__costs r_.costs.length c_r__costs)].toArray 25)] O) w8
      refine Wp_region ?_  -- 3 law.go:175
      refine Rg_op rfl (op_loadA (cs := [(Value.int .i64 r_.slots), (Value.slice a_r__owners r_.owners.length c_r__owners), (Value.slice a_r__costs r_.costs.length c_r__costs)]) (vs := [(Value.int .i64 r_.slots), (Value.slice a_r__owners r_.owners.length c_r__owners), (Value.slice a_r__costs r_.costs.length c_r__costs)]) (i := 0) ty25 hs11 rfl rfl rfl rfl ?_)
      replace hm := bd hm; obtain ⟨few_1, hv289, hm⟩ := hm
      refine Rg_op rfl (op_call Try.call16 (c16_overflightref37_Few (r_ := r_) hs11.ltw r_r__slots f_r__owners f_r__costs hv289) rfl ?_)
      rintro v290 w291 ⟨hx292, h293⟩
      have hs294 := hs11.call hx292
      have p295 := Step.ext (O := ks [(some b1, Obj.cells [(Value.int .i64 r_.slots), (Value.slice a_r__owners r_.owners.length c_r__owners), (Value.slice a_r__costs r_.costs.length c_r__costs)].toArray 25)] O) hx292
      clear hx292
      replace f_r__owners := f_r__owners.step p295
      replace f_r__costs := f_r__costs.step p295
      replace f_slots := f_slots.step p295
      replace ch288 := ch288.trans p295
      clear p295 hs11
      obtain rfl := h293
      refine Rg_op rfl (op_not rfl ?_)
      refine Rg_op rfl (op_move (v := (Value.bool (!few_1))) rfl ?_)
      refine Rg_case (fun hg297 => ?_) (fun hg297 => ?_)
      ·
        replace hm := bif_t hm hg297
        refine Rg_opx rfl (asB_ne rfl rfl) rfl ?_
        refine Rg_opx rfl (asB_ne rfl rfl) rfl ?_
        refine Rg_opx rfl (asB_ne rfl rfl) rfl ?_
        refine Rg_op rfl (op_pick_t (v := (Value.bool true)) rfl rfl ?_)
        refine Rg_nil ?_
        exact hK21 _ _ ⟨true, _, rfl, ⟨(by repeat (first | with_reducible exact Out.refl _ _ | refine Out.upd ?_ rfl | refine Out.updL ?_ rfl | refine Out.mix' ?_ rfl | exact Out.refl _ _)), rfl, rfl, trivial⟩, ch288, hs294, hm⟩
      ·
        replace hm := bif_f hm hg297
        refine Rg_opg rfl rfl rfl (op_move (v := (Value.slice a_slots slots.length c_slots)) rfl ?_)
        refine Rg_opg rfl rfl rfl (op_len Try.underlying22 rfl ?_)
        refine Rg_opg rfl rfl rfl (op_gtr rfl rfl ?_)
        refine Rg_op rfl (op_pick_f (v := (Value.bool (decide (20 < (slots.length : Int))))) rfl rfl ?_)
        refine Rg_nil ?_
        exact hK21 _ _ ⟨(decide (20 < (slots.length : Int))), _, rfl, ⟨(by repeat (first | with_reducible exact Out.refl _ _ | refine Out.upd ?_ rfl | refine Out.updL ?_ rfl | refine Out.mix' ?_ rfl | exact Out.refl _ _)), rfl, rfl, trivial⟩, ch288, hs294, hm⟩

end Go.Fx


/- What the models of functions compute: loops over lists, checks, meetings. No program in sight. -/
set_option linter.unusedSimpArgs false
set_option linter.unusedVariables false
namespace Go.Fx
open Go Go.RowKit

section
variable {R α σ : Type}
@[simp] theorem jn_eq {κ : Type _} (k : κ) (f : κ → Option R) : jn k f = f k := rfl
theorem ck_eq {c : Prop} [Decidable c] {m : Option R} (h : c) : ck c m = m := if_pos h
@[simp] theorem ck_True {m : Option R} : ck True m = m := if_pos trivial
theorem wrapN {i : Nat} (h : i < 9223372036854775808) : IntKind.i64.wrap (i : Int) = (i : Int) := wrap_i64 (by omega) (by omega)
theorem wrapS {i : Nat} (h : i + 1 < 9223372036854775808) : IntKind.i64.wrap ((i : Int) + 1) = (i : Int) + 1 := wrap_i64 (by omega) (by omega)
theorem wrapA {i j : Nat} (h : i + j < 9223372036854775808) : IntKind.i64.wrap ((i : Int) + (j : Int)) = ((i + j : Nat) : Int) := (wrap_i64 (by omega) (by omega)).trans (by omega)
theorem wrapP {i : Nat} (h : i < 9223372036854775808) : IntKind.i64.wrap (((i + 1 : Nat) : Int) - 1) = (i : Int) := (wrap_i64 (by omega) (by omega)).trans (by omega)

/-- a loop that goes up an index over a list: L fuel index state -/
theorem up_list {L : Nat → Int → σ → Option R} (I : Nat → σ → Prop) (F : Nat → List α → σ → Option R) (l : List α) (hl : l.length < 9223372036854775807)
    (hE : ∀ n s, I l.length s → L (n + 1) (l.length : Nat) s = F l.length [] s)
    (hS : ∀ n (i : Nat) s x t, i < l.length → l[i]? = some x → IntKind.i64.wrap ((i : Int) + 1) = (i : Int) + 1 → I i s →
      (∀ s, I (i + 1) s → L n ((i : Int) + 1) s = F (i + 1) t s) → L (n + 1) (i : Int) s = F i (x :: t) s) :
    ∀ (fuel : Nat) s, l.length < fuel → I 0 s → L fuel 0 s = F 0 l s := by
  have main : ∀ (t : List α) (i fuel : Nat) s, l.drop i = t → i ≤ l.length → l.length - i < fuel → I i s → L fuel (i : Int) s = F i t s := by
    intro t
    induction t with
    | nil =>
      intro i fuel s hd hi hf hI
      have : i = l.length := by have := congrArg List.length hd; simp at this; omega
      subst this
      obtain ⟨n, rfl⟩ : ∃ n, fuel = n + 1 := ⟨fuel - 1, by omega⟩
      exact hE n s hI
    | cons x t ih =>
      intro i fuel s hd hi hf hI
      have hlt : i < l.length := by have := congrArg List.length hd; simp at this; omega
      obtain ⟨n, rfl⟩ : ∃ n, fuel = n + 1 := ⟨fuel - 1, by omega⟩
      have hx : l[i]? = some x := by rw [← List.head?_drop, hd]; rfl
      refine hS n i s x t hlt hx (wrapS (by omega)) hI fun s' hI' => (ih (i + 1) n s' ?_ (by omega) (by omega) hI')
      rw [← List.drop_drop, hd]; rfl
  intro fuel s hf hI
  exact main l 0 fuel s rfl (by omega) (by omega) hI

theorem getD_of {l : List α} {i : Nat} {x d : α} (h : l[i]? = some x) : l.getD i d = x := by simp [List.getD, h]

/-- a loop that goes up an index over a list, no state -/
theorem up_list0 {B : (Int → Option R) → Int → Option R} (F : List α → Option R) (l : List α) (hl : l.length < 9223372036854775807)
    (hE : ∀ sf, B sf (l.length : Nat) = F [])
    (hS : ∀ sf (i : Nat) x t, i < l.length → l[i]? = some x → IntKind.i64.wrap ((i : Int) + 1) = (i : Int) + 1 →
      sf ((i : Int) + 1) = F t → B sf (i : Int) = F (x :: t))
    {fuel : Nat} (hf : l.length < fuel) : loop1 B fuel 0 = F l := by
  refine up_list (L := fun n i (_ : Unit) => loop1 B n i) (fun _ _ => True) (fun _ t _ => F t) l hl ?_ ?_ fuel () hf trivial
  · intro n _ _; show loop1 B (n + 1) _ = _; rw [loop1_succ]; exact hE _
  · intro n i _ x t h1 h2 h3 _ ih; show loop1 B (n + 1) _ = _; rw [loop1_succ]; exact hS _ i x t h1 h2 h3 (ih () trivial)
/-- index first, then a state -/
theorem up_listA {B : (Int → σ → Option R) → Int → σ → Option R} (I : Nat → σ → Prop) (F : Nat → List α → σ → Option R) (l : List α) (hl : l.length < 9223372036854775807)
    (hE : ∀ sf s, I l.length s → B sf (l.length : Nat) s = F l.length [] s)
    (hS : ∀ sf (i : Nat) s x t, i < l.length → l[i]? = some x → IntKind.i64.wrap ((i : Int) + 1) = (i : Int) + 1 → I i s →
      (∀ s, I (i + 1) s → sf ((i : Int) + 1) s = F (i + 1) t s) → B sf (i : Int) s = F i (x :: t) s)
    {fuel : Nat} {s : σ} (hf : l.length < fuel) (hI : I 0 s) : loop2 B fuel 0 s = F 0 l s := by
  refine up_list (L := fun n i s => loop2 B n i s) I F l hl ?_ ?_ fuel s hf hI
  · intro n s h; show loop2 B (n + 1) _ _ = _; rw [loop2_succ]; exact hE _ _ h
  · intro n i s x t h1 h2 h3 h4 ih; show loop2 B (n + 1) _ _ = _; rw [loop2_succ]; exact hS _ i s x t h1 h2 h3 h4 ih
/-- a state first, then the index -/
theorem up_listB {B : (σ → Int → Option R) → σ → Int → Option R} (I : Nat → σ → Prop) (F : Nat → List α → σ → Option R) (l : List α) (hl : l.length < 9223372036854775807)
    (hE : ∀ sf s, I l.length s → B sf s (l.length : Nat) = F l.length [] s)
    (hS : ∀ sf (i : Nat) s x t, i < l.length → l[i]? = some x → IntKind.i64.wrap ((i : Int) + 1) = (i : Int) + 1 → I i s →
      (∀ s, I (i + 1) s → sf s ((i : Int) + 1) = F (i + 1) t s) → B sf s (i : Int) = F i (x :: t) s)
    {fuel : Nat} {s : σ} (hf : l.length < fuel) (hI : I 0 s) : loop2 B fuel s 0 = F 0 l s := by
  refine up_list (L := fun n i s => loop2 B n s i) I F l hl ?_ ?_ fuel s hf hI
  · intro n s h; show loop2 B (n + 1) _ _ = _; rw [loop2_succ]; exact hE _ _ h
  · intro n i s x t h1 h2 h3 h4 ih; show loop2 B (n + 1) _ _ = _; rw [loop2_succ]; exact hS _ i s x t h1 h2 h3 h4 ih

/-- the same, where the answer needs the index -/
theorem up_listI {B : (Int → Option R) → Int → Option R} (F : Nat → List α → Option R) (l : List α) (hl : l.length < 9223372036854775807)
    (hE : ∀ sf, B sf (l.length : Nat) = F l.length [])
    (hS : ∀ sf (i : Nat) x t, i < l.length → l[i]? = some x → IntKind.i64.wrap ((i : Int) + 1) = (i : Int) + 1 →
      sf ((i : Int) + 1) = F (i + 1) t → B sf (i : Int) = F i (x :: t))
    {fuel : Nat} (hf : l.length < fuel) : loop1 B fuel 0 = F 0 l := by
  refine up_list (L := fun n i (_ : Unit) => loop1 B n i) (fun _ _ => True) (fun i t _ => F i t) l hl ?_ ?_ fuel () hf trivial
  · intro n _ _; show loop1 B (n + 1) _ = _; rw [loop1_succ]; exact hE _
  · intro n i _ x t h1 h2 h3 _ ih; show loop1 B (n + 1) _ = _; rw [loop1_succ]; exact hS _ i x t h1 h2 h3 (ih () trivial)
end
end Go.Fx


/- Chapter 37, no program in sight: all exchanges of some flights, in order. -/
set_option linter.unusedSimpArgs false
set_option linter.unusedVariables false
namespace Go.Fx
open Go Go.RowKit
/-- all ways to go on from b with k more, out of fl, all different, allowed at their place -/
def dv (fl : List Int) (ok : Nat → Int → Bool) : Nat → List Int → List (List Int)
  | 0, b => [b]
  | k + 1, b => fl.flatMap fun s => bif ok b.length s && !b.contains s then dv fl ok k (b ++ [s]) else []
/-- t may follow b -/
def gd (fl : List Int) (ok : Nat → Int → Bool) : List Int → List Int → Prop
  | _, [] => True
  | b, s :: t => s ∈ fl ∧ ok b.length s = true ∧ s ∉ b ∧ gd fl ok (b ++ [s]) t
theorem mem_dv {fl : List Int} {ok : Nat → Int → Bool} : ∀ {k : Nat} {b x : List Int}, x ∈ dv fl ok k b ↔ ∃ t, x = b ++ t ∧ t.length = k ∧ gd fl ok b t := by
  intro k
  induction k with
  | zero =>
    intro b x
    simp only [dv, List.mem_singleton]
    constructor
    · rintro rfl; exact ⟨[], by simp, rfl, trivial⟩
    · rintro ⟨t, rfl, ht, _⟩; rw [List.length_eq_zero_iff.1 ht]; simp
  | succ k ih =>
    intro b x
    simp only [dv, List.mem_flatMap]
    constructor
    · rintro ⟨s, hs, hx⟩
      cases hc : (ok b.length s && !b.contains s)
      · rw [hc] at hx; cases hx
      · rw [hc, cond_true, ih] at hx
        obtain ⟨t, rfl, ht, hg⟩ := hx
        simp only [Bool.and_eq_true, Bool.not_eq_true', List.contains_eq_mem, decide_eq_false_iff_not] at hc
        exact ⟨s :: t, by simp, by simp [ht], hs, hc.1, hc.2, hg⟩
    · rintro ⟨t, rfl, ht, hg⟩
      cases t with
      | nil => cases ht
      | cons s t =>
        obtain ⟨h1, h2, h3, h4⟩ := hg
        refine ⟨s, h1, ?_⟩
        have hc : (ok b.length s && !b.contains s) = true := by simp [h2, h3]
        rw [hc, cond_true, ih]
        exact ⟨t, by simp, by simpa using ht, h4⟩
/-- the sum of what belongs to o -/
def csum (own : Int → Int) (cost : Int → Int → Int) (o : Int) : List (Int × Int) → Int
  | [] => 0
  | (f, s) :: t => (if own f = o then cost f s else 0) + csum own cost o t
theorem csum_append (own : Int → Int) (cost : Int → Int → Int) (o : Int) (l m : List (Int × Int)) : csum own cost o (l ++ m) = csum own cost o l + csum own cost o m := by
  induction l with
  | nil => simp [csum]
  | cons p t ih => obtain ⟨f, s⟩ := p; simp only [List.cons_append, csum, ih]; omega
/-- only the own ones count -/
theorem csum_filter (own : Int → Int) (cost : Int → Int → Int) (o : Int) (l : List (Int × Int)) : csum own cost o l = csum own cost o (l.filter fun p => decide (own p.1 = o)) := by
  induction l with
  | nil => rfl
  | cons p t ih =>
    obtain ⟨f, s⟩ := p
    by_cases h : own f = o
    · rw [List.filter_cons_of_pos (by simpa using h)]; simp only [csum, h, if_true]; omega
    · rw [List.filter_cons_of_neg (by simpa using h)]; simp only [csum, h, if_false]; omega
end Go.Fx


/- The plain laws of chapter 37: what the functions compute. -/
set_option linter.unusedSimpArgs false
set_option linter.unusedVariables false
namespace Go.Fx
open Go Go.RowKit
theorem sane_eq : m15_overflightlaw37_sane = some true := by kernel_rfl
theorem all_range' {p : Nat → Bool} (i n : Nat) : (List.range' i (n + 1)).all p = (p i && (List.range' (i + 1) n).all p) := by rw [List.range'_succ]; rfl
theorem all_range {p : Nat → Bool} (n : Nat) : (List.range n).all p = (List.range' 0 n).all p := by rw [List.range_eq_range']
/-- the first index from i where g holds, or -1 -/
def fidx {α} (g : α → Bool) : Nat → List α → Int
  | _, [] => -1
  | i, x :: t => bif g x then (i : Int) else fidx g (i + 1) t
theorem fidx_any {α} (g : α → Bool) (l : List α) (i : Nat) : decide (0 ≤ fidx g i l) = l.any g := by
  induction l generalizing i with
  | nil => rfl
  | cons x t ih => cases h : g x <;> simp [fidx, h, ih]
theorem m45_eq (s : List Int) (f : Int → Option Bool) (g : Int → Bool) (hf : ∀ x ∈ s, f x = some (g x)) (hl : s.length < 9223372036854775807) : m45_slices_ContainsFuncint_int_ s f = some (s.any g) := by
  have : m65_slices_IndexFuncint_int_ s f = some (fidx g 0 s) := by
    unfold m65_slices_IndexFuncint_int_
    refine up_listI (fun i t => some (fidx g i t)) s hl ?_ ?_ (by omega)
    · intro sf; unfold m65_slices_IndexFuncint_int__B0; simp [fidx]
    · intro sf i x t h1 h2 h3 ih; unfold m65_slices_IndexFuncint_int__B0; obtain ⟨_, rfl⟩ := List.getElem?_eq_some_iff.1 h2
      have hfi := hf s[i] (List.getElem_mem _)
      cases h : g s[i] <;> simp [h1, h3, ih, hfi, h, fidx, ck_eq]
  unfold m45_slices_ContainsFuncint_int_; rw [this]; simp [fidx_any]
theorem m43_eq (s : List Int) (v : Int) (hl : s.length < 9223372036854775807) : m43_slices_Containsint_int_ s v = some (s.any fun x => decide (v = x)) := by
  have : m64_slices_Indexint_int_ s v = some (fidx (fun x => decide (v = x)) 0 s) := by
    unfold m64_slices_Indexint_int_
    refine up_listI (fun i t => some (fidx (fun x => decide (v = x)) i t)) s hl ?_ ?_ (by omega)
    · intro sf; unfold m64_slices_Indexint_int__B0; simp [fidx]
    · intro sf i x t h1 h2 h3 ih; unfold m64_slices_Indexint_int__B0; obtain ⟨_, rfl⟩ := List.getElem?_eq_some_iff.1 h2
      by_cases h : v = s[i]
      · have g1 : s.getD (i : Int).toNat default = s[i] := by simp [h1]
        simp only [show (i : Int) < (s.length : Int) by omega, decide_true, cond_true, g1]
        rw [ck_eq (by simp)]; simp [← h, fidx]
      · simp [h1, h3, ih, h, fidx, ck_eq]
  unfold m43_slices_Containsint_int_; rw [this]; simp [fidx_any]
def badC (c : Int) : Bool := decide (c < -1) || decide (1048576 < c)
theorem m46_eq (c : Int) (hc : InK .i64 c) : m46_coalition_Check_2 c (fun x24 x25 => m44_coalition_Check_1 x24 x25) = some (badC c) := by
  have h1 := hc.1; have h2 := hc.2
  simp [IntKind.min, IntKind.max, IntKind.signed, IntKind.bits] at h1 h2
  unfold m46_coalition_Check_2 m44_coalition_Check_1 badC
  by_cases hm : c = 9223372036854775807
  · subst hm; rfl
  · have w : IntKind.i64.wrap (c + 1) = c + 1 := wrap_i64 (by omega) (by omega)
    rw [w]
    by_cases k1 : c < -1
    · have : c + 1 < 0 := by omega
      simp [k1, this]
    · have : ¬ c + 1 < 0 := by omega
      have e : (1048577 < c + 1) = (1048576 < c) := by apply propext; omega
      simp only [k1, this, e, decide_false, cond_false, Bool.false_or, Option.bind_some]
/-- flight i of a round is not as it should be -/
def rowBad (r : XRound) (i : Nat) : Bool :=
  (decide (r.owners.getD i default < 0) || decide (7 < r.owners.getD i default)) || (!decide (((r.costs.getD i default).length : Int) = r.slots) || (decide ((r.costs.getD i default).getD i default < 0) || (r.costs.getD i default).any badC))
def shapeB (r : XRound) : Bool := !(decide (r.slots < 1) || (decide (8 < r.slots) || (decide (r.slots < (r.owners.length : Int)) || decide ((r.costs.length : Int) ≠ (r.owners.length : Int)))))
/-- what Check answers -/
def valB (r : XRound) : Bool := shapeB r && (List.range r.owners.length).all fun i => !rowBad r i
theorem shape_props {r : XRound} (h : shapeB r = true) : 1 ≤ r.slots ∧ r.slots ≤ 8 ∧ (r.owners.length : Int) ≤ r.slots ∧ r.costs.length = r.owners.length := by
  unfold shapeB at h; simp at h; omega
theorem m22_eq (r : XRound) (hs : smXRound r) : m22_coalition_Check r = some (bif valB r then 0 else 370) := by
  have hcl : r.costs.length < 9223372036854775807 := by have := hs.2.2.1; omega
  unfold m22_coalition_Check
  have main : shapeB r = true → loop1 (m22_coalition_Check_B0 r) (((r.costs.length : Int) - 0).toNat + 1) 0 = some (bif (List.range r.owners.length).all (fun i => !rowBad r i) then 0 else 370) := by
    intro hsh
    obtain ⟨s1, s2, s3, s4⟩ := shape_props hsh
    rw [all_range, ← s4]
    refine up_listI (fun i t => some (bif (List.range' i t.length).all (fun i => !rowBad r i) then 0 else 370)) r.costs hcl ?_ ?_ (show r.costs.length < ((r.costs.length : Int) - 0).toNat + 1 by omega)
    · intro sf; unfold m22_coalition_Check_B0; simp
    · intro sf i x t h1 h2 h3 ih
      have g0 : r.costs.getD (i : Int).toNat default = r.costs.getD i default := rfl
      have g1 : r.owners.getD (i : Int).toNat default = r.owners.getD i default := rfl
      have g2 : (r.costs.getD i default).getD (i : Int).toNat default = (r.costs.getD i default).getD i default := rfl
      have hrow : r.costs.getD i default ∈ r.costs := by rw [show r.costs.getD i default = r.costs[i] from by simp [h1]]; exact List.getElem_mem _
      have hrl := (hs.2.2.2 _ hrow)
      rw [List.length_cons, all_range']
      unfold m22_coalition_Check_B0
      have c1 : (i : Int) < (r.costs.length : Int) := by omega
      simp only [c1, decide_true, cond_true, jn_eq, g0, g1, g2, h3, ih]
      rw [ck_eq (by simp), ck_eq (by omega)]
      have m45 := m45_eq (r.costs.getD i default) (fun x286 => m46_coalition_Check_2 x286 (fun x24 x25 => m44_coalition_Check_1 x24 x25)) badC (fun x hx => m46_eq x (hrl.2 x hx)) (by have := hrl.1; omega)
      rw [m45]
      have hb : rowBad r i = ((decide (r.owners.getD i default < 0) || decide (7 < r.owners.getD i default)) || (!decide (((r.costs.getD i default).length : Int) = r.slots) || (decide ((r.costs.getD i default).getD i default < 0) || (r.costs.getD i default).any badC))) := rfl
      rw [hb]
      generalize (List.range' (i + 1) t.length).all (fun i => !rowBad r i) = rest
      clear hb ih hrl hrow m45 g0 g1 g2 hs
      generalize r.costs.getD i default = row
      generalize r.owners.getD i default = o
      generalize row.getD i default = dg
      generalize row.any badC = bb
      unfold m44_coalition_Check_1
      by_cases k1 : o < 0
      · simp [k1]
      by_cases k2 : 7 < o
      · simp [k1, k2]
      by_cases k3 : (row.length : Int) = r.slots
      · rw [ck_eq (by omega)]
        by_cases k4 : dg < 0
        · simp [k1, k2, k3, k4]
        · cases bb <;> simp [k1, k2, k3, k4]
      · simp [k1, k2, k3]
  simp only [jn_eq]
  unfold valB
  cases hsh : shapeB r
  · unfold shapeB at hsh
    by_cases k1 : r.slots < 1
    · simp [k1]
    by_cases k2 : 8 < r.slots
    · simp [k1, k2]
    by_cases k3 : r.slots < (r.owners.length : Int)
    · simp [k1, k2, k3]
    by_cases k4 : (r.costs.length : Int) = (r.owners.length : Int)
    · simp [k1, k2, k3, k4] at hsh
    · simp [k1, k2, k3, k4]
  · have hm := main hsh
    obtain ⟨s1, s2, s3, s4⟩ := shape_props hsh
    have k1 : ¬ r.slots < 1 := by omega
    have k2 : ¬ 8 < r.slots := by omega
    have k3 : ¬ r.slots < (r.owners.length : Int) := by omega
    have k4 : (r.costs.length : Int) = (r.owners.length : Int) := by omega
    simp only [k1, k2, k3, k4, decide_false, cond_false, ne_eq, not_true_eq_false, Bool.true_and]
    rw [k4] at hm; exact hm
structure Val (r : XRound) : Prop where
  s1 : 1 ≤ r.slots
  s2 : r.slots ≤ 8
  s3 : (r.owners.length : Int) ≤ r.slots
  s4 : r.costs.length = r.owners.length
  own : ∀ i < r.owners.length, 0 ≤ r.owners.getD i default ∧ r.owners.getD i default < 8
  row : ∀ i < r.owners.length, ((r.costs.getD i default).length : Int) = r.slots
  diag : ∀ i < r.owners.length, 0 ≤ (r.costs.getD i default).getD i default
  cost : ∀ i < r.owners.length, ∀ c ∈ r.costs.getD i default, -1 ≤ c ∧ c ≤ 1048576
theorem Val.of {r : XRound} (h : valB r = true) : Val r := by
  unfold valB at h
  simp only [Bool.and_eq_true, List.all_eq_true, List.mem_range] at h
  obtain ⟨s1, s2, s3, s4⟩ := shape_props h.1
  have hb : ∀ i < r.owners.length, _ := fun i hi => h.2 i hi
  refine ⟨s1, s2, s3, s4, fun i hi => ?_, fun i hi => ?_, fun i hi => ?_, fun i hi c hc => ?_⟩ <;> (have := hb i hi; unfold rowBad at this; simp only [Bool.not_eq_true', Bool.or_eq_false_iff, Bool.not_eq_false', decide_eq_false_iff_not, decide_eq_true_eq, List.any_eq_false] at this; obtain ⟨⟨p1, p2⟩, p3, p4, p5⟩ := this)
  · omega
  · exact p3
  · omega
  · have := p5 c hc; simp [badC] at this; omega
end Go.Fx


/- Chapter 37: validity, few, assignments, costs. -/
set_option linter.unusedSimpArgs false
set_option linter.unusedVariables false
namespace Go.Fx
open Go Go.RowKit
theorem any_range' {p : Nat → Bool} (i n : Nat) : (List.range' i (n + 1)).any p = (p i || (List.range' (i + 1) n).any p) := by rw [List.range'_succ]; rfl
theorem getD_getElem {α} [Inhabited α] {l : List α} {i : Nat} (h : i < l.length) : l.getD i default = l[i] := by simp [h]
theorem getD_mem {α} [Inhabited α] {l : List α} {i : Nat} (h : i < l.length) : l.getD i default ∈ l := by rw [getD_getElem h]; exact List.getElem_mem _
def badK (row : List Int) (i k : Nat) : Bool := decide (row.getD k default < -1) || (decide (1048576 < row.getD k default) || (decide (k = i) && decide (row.getD k default < 0)))
theorem badK_any {row : List Int} {i : Nat} (h : i < row.length) : (List.range' 0 row.length).any (badK row i) = (decide (row.getD i default < 0) || row.any badC) := by
  rw [Bool.eq_iff_iff]
  simp only [List.any_eq_true, Bool.or_eq_true, decide_eq_true_eq, List.mem_range'_1, Nat.zero_le, true_and, Nat.zero_add]
  constructor
  · rintro ⟨k, hk, hb⟩
    unfold badK at hb
    simp only [Bool.or_eq_true, Bool.and_eq_true, decide_eq_true_eq] at hb
    rcases hb with hb | hb | ⟨rfl, hb⟩
    · exact .inr ⟨_, getD_mem hk, by unfold badC; simp only [← getD_getElem hk, hb, decide_true, Bool.true_or, Bool.or_true]⟩
    · exact .inr ⟨_, getD_mem hk, by unfold badC; simp only [← getD_getElem hk, hb, decide_true, Bool.true_or, Bool.or_true]⟩
    · exact .inl hb
  · rintro (hb | ⟨c, hc, hb⟩)
    · exact ⟨i, h, by simp only [badK, hb, decide_true, Bool.and_true, Bool.or_true]⟩
    · obtain ⟨k, hk, rfl⟩ := List.getElem_of_mem hc
      refine ⟨k, hk, ?_⟩
      unfold badC at hb; simp only [Bool.or_eq_true, decide_eq_true_eq] at hb
      unfold badK; rw [getD_getElem hk]
      rcases hb with hb | hb <;> simp [hb]
theorem m38_eq (r : XRound) (hs : smXRound r) : m38_overflightref37_Valid r = some (valB r) := by
  have hcl : r.owners.length < 9223372036854775807 := by have := hs.2.1.1; omega
  unfold m38_overflightref37_Valid
  have main : shapeB r = true → loop1 (m38_overflightref37_Valid_B0 r) (((r.owners.length : Int) - 0).toNat + 1) 0 = some ((List.range r.owners.length).all (fun i => !rowBad r i)) := by
    intro hsh
    obtain ⟨s1, s2, s3, s4⟩ := shape_props hsh
    rw [all_range]
    refine up_listI (fun i t => some ((List.range' i t.length).all (fun i => !rowBad r i))) r.owners hcl ?_ ?_ (show r.owners.length < ((r.owners.length : Int) - 0).toNat + 1 by omega)
    · intro sf; unfold m38_overflightref37_Valid_B0; simp
    · intro sf i x t h1 h2 h3 ih
      have hrow : r.costs.getD i default ∈ r.costs := getD_mem (by omega)
      have hrl := (hs.2.2.2 _ hrow)
      rw [List.length_cons, all_range']
      unfold m38_overflightref37_Valid_B0
      have c1 : (i : Int) < (r.owners.length : Int) := by omega
      have g0 : r.costs.getD (i : Int).toNat default = r.costs.getD i default := rfl
      have g1 : r.owners.getD (i : Int).toNat default = r.owners.getD i default := rfl
      simp only [decide_eq_true c1, cond_true, jn_eq, g0, g1]
      have inner : ∀ row : List Int, row = r.costs.getD i default → (row.length : Int) = r.slots → loop1 (m38_overflightref37_Valid_B1 r (i : Int) sf) ((r.slots - 0).toNat + 1) 0 = bif (decide (row.getD i default < 0) || row.any badC) then some false else sf (IntKind.wrap .i64 ((i : Int) + 1)) := by
        intro row hr hl
        rw [← badK_any (row := row) (i := i) (by omega)]
        refine up_listI (fun k t => bif (List.range' k t.length).any (badK row i) then some false else sf (IntKind.wrap .i64 ((i : Int) + 1))) row (by omega) ?_ ?_ (by omega)
        · intro sg; unfold m38_overflightref37_Valid_B1; simp [hl]
        · intro sg k y u h1 h2 h3 ih
          have g0 : r.costs.getD (i : Int).toNat default = row := by rw [hr]; rfl
          have g2 : row.getD (k : Int).toNat default = row.getD k default := rfl
          have c1 : (k : Int) < r.slots := by omega
          have e1 : ((k : Int) = (i : Int)) = (k = i) := by apply propext; omega
          rw [List.length_cons, any_range']
          unfold m38_overflightref37_Valid_B1
          simp only [c1, decide_true, cond_true, jn_eq, g0, g2, h3, ih, e1]
          rw [ck_eq (by omega), ck_eq (by omega)]
          have hb : badK row i k = (decide (row.getD k default < -1) || (decide (1048576 < row.getD k default) || (decide (k = i) && decide (row.getD k default < 0)))) := rfl
          rw [hb]
          have a1 : (0 : Int) ≤ i ∧ (i : Int) < r.costs.length := by omega
          have a2 : (0 : Int) ≤ k ∧ (k : Int) < row.length := by omega
          generalize (List.range' (k + 1) u.length).any (badK row i) = rest
          generalize row.getD k default = c
          simp only [ck_eq a1, ck_eq a2]
          by_cases q1 : c < -1
          · simp [q1]
          by_cases q2 : 1048576 < c
          · simp [q1, q2]
          by_cases q3 : k = i
          · by_cases q4 : c < 0
            · simp only [q1, q2, q3, q4]; rfl
            · simp only [q1, q2, q3, q4]; rfl
          · simp [q1, q2, q3]
      have hb : rowBad r i = ((decide (r.owners.getD i default < 0) || decide (7 < r.owners.getD i default)) || (!decide (((r.costs.getD i default).length : Int) = r.slots) || (decide ((r.costs.getD i default).getD i default < 0) || (r.costs.getD i default).any badC))) := rfl
      rw [hb]
      replace inner := inner _ rfl
      rw [h3] at inner
      generalize (List.range' (i + 1) t.length).all (fun i => !rowBad r i) = rest at *
      clear hb hrl hrow g0 g1 hs
      generalize r.costs.getD i default = row at *
      generalize r.owners.getD i default = o at *
      generalize row.getD i default = dg at *
      generalize row.any badC = bb at *
      have a1 : (0 : Int) ≤ i ∧ (i : Int) < r.owners.length := by omega
      have a2 : (0 : Int) ≤ i ∧ (i : Int) < r.costs.length := by omega
      simp only [ck_eq a1, ck_eq a2]
      by_cases k1 : o < 0
      · simp [k1]
      by_cases k2 : 7 < o
      · have : 8 ≤ o := by omega
        simp [k1, k2, this, ck_eq a1]
      have k2' : ¬ 8 ≤ o := by omega
      by_cases k3 : (row.length : Int) = r.slots
      · simp only [k1, k2, k2', k3, ck_eq a1, ck_eq a2, inner k3, ih, ne_eq, not_true_eq_false, decide_false, cond_false]
        generalize decide (dg < 0) = d1
        cases d1 <;> cases bb <;> rfl
      · simp [k1, k2, k2', k3, ck_eq a1, ck_eq a2]
  simp only [jn_eq]
  unfold valB
  cases hsh : shapeB r
  · unfold shapeB at hsh
    by_cases k1 : r.slots < 1
    · simp [k1]
    by_cases k2 : 8 < r.slots
    · simp [k1, k2]
    by_cases k3 : r.slots < (r.owners.length : Int)
    · simp [k1, k2, k3]
    by_cases k4 : (r.costs.length : Int) = (r.owners.length : Int)
    · simp [k1, k2, k3, k4] at hsh
    · simp [k1, k2, k3, k4]
  · have hm := main hsh
    obtain ⟨s1, s2, s3, s4⟩ := shape_props hsh
    have k1 : ¬ r.slots < 1 := by omega
    have k2 : ¬ 8 < r.slots := by omega
    have k3 : ¬ r.slots < (r.owners.length : Int) := by omega
    have k4 : (r.costs.length : Int) = (r.owners.length : Int) := by omega
    simp only [k1, k2, k3, k4, decide_false, cond_false, ne_eq, not_true_eq_false, Bool.true_and]
    exact hm
def fewB (r : XRound) : Bool := !(decide (12 < (r.owners.length : Int)) || decide (12 < (r.costs.length : Int))) && (r.costs.all (fun c => !decide (20 < (c.length : Int))) && (!valB r || decide ((r.owners.length : Int) ≤ 5)))
theorem m16_eq (r : XRound) (hs : smXRound r) : m16_overflightref37_Few r = some (fewB r) := by
  have hcl : r.costs.length < 9223372036854775807 := by have := hs.2.2.1; omega
  unfold m16_overflightref37_Few
  have main : loop1 (m16_overflightref37_Few_B0 r) (((r.costs.length : Int) - 0).toNat + 1) 0 = some (r.costs.all (fun c => !decide (20 < (c.length : Int))) && (!valB r || decide ((r.owners.length : Int) ≤ 5))) := by
    refine up_list0 (fun t => some (t.all (fun c => !decide (20 < (c.length : Int))) && (!valB r || decide ((r.owners.length : Int) ≤ 5)))) r.costs hcl ?_ ?_ (show r.costs.length < ((r.costs.length : Int) - 0).toNat + 1 by omega)
    · intro sf; unfold m16_overflightref37_Few_B0; simp only [m38_eq r hs]; cases valB r <;> simp
    · intro sf i x t h1 h2 h3 ih
      unfold m16_overflightref37_Few_B0
      have g0 : r.costs.getD (i : Int).toNat default = x := getD_of h2
      have c1 : (i : Int) < (r.costs.length : Int) := by omega
      simp only [c1, decide_true, cond_true, g0, h3, ih, List.all_cons]
      rw [ck_eq (by simp)]
      cases decide (20 < (x.length : Int)) <;> simp
  simp only [jn_eq, main]
  unfold fewB
  cases decide (12 < (r.owners.length : Int)) <;> cases decide (12 < (r.costs.length : Int)) <;> simp
theorem fewB_props {r : XRound} (h : fewB r = true) (hv : valB r = true) : r.owners.length ≤ 5 := by
  unfold fewB at h; rw [hv] at h; simp at h; omega
/-- what flight f costs at slot s -/
def cst (r : XRound) (f s : Int) : Int := (r.costs.getD f.toNat default).getD s.toNat default
def ownr (r : XRound) (f : Int) : Int := r.owners.getD f.toNat default
/-- slot i of s is as it should be -/
def okS (r : XRound) (s : List Int) (i : Nat) : Bool := !(decide (s.getD i default < 0) || (decide (r.slots ≤ s.getD i default) || (decide (cst r i (s.getD i default) < 0) || (s.take i).any (fun x => decide (s.getD i default = x)))))
def asgB (r : XRound) (s : List Int) : Bool := decide (s.length = r.owners.length) && (List.range s.length).all (okS r s)
theorem m47_eq (r : XRound) (s : List Int) (hv : Val r) (hl : s.length < 9223372036854775807) : m47_coalition_allowed r s = some (asgB r s) := by
  unfold m47_coalition_allowed asgB
  by_cases hc : s.length = r.owners.length
  · have : ¬ (s.length : Int) ≠ r.owners.length := by omega
    simp only [this, decide_eq_true hc, decide_false, cond_false, Bool.true_and]
    rw [all_range]
    refine up_listI (fun i t => some ((List.range' i t.length).all (okS r s))) s hl ?_ ?_ (show s.length < ((s.length : Int) - 0).toNat + 1 by omega)
    · intro sf; unfold m47_coalition_allowed_B0; simp
    · intro sf i x t h1 h2 h3 ih
      rw [List.length_cons, all_range']
      unfold m47_coalition_allowed_B0
      have g0 : s.getD (i : Int).toNat default = s.getD i default := rfl
      have c1 : (i : Int) < (s.length : Int) := by omega
      have c2 : (0 : Int) ≤ i ∧ (i : Int) < s.length := by omega
      have c3 : (0 : Int) ≤ i ∧ (i : Int) ≤ s.length := by omega
      have c4 : (0 : Int) ≤ i ∧ (i : Int) < r.costs.length := by have := hv.s4; omega
      have e1 : (s.drop 0).take ((i : Int).toNat - 0) = s.take i := by simp
      have hm := m43_eq (s.take i) (s.getD i default) (by rw [List.length_take]; omega)
      have e2 : (r.costs.getD (i : Int).toNat default).getD (s.getD i default).toNat default = cst r i (s.getD i default) := rfl
      have hr := hv.row i (by omega)
      have hr' : ((r.costs.getD (i : Int).toNat default).length : Int) = r.slots := hr
      have hb : okS r s i = !(decide (s.getD i default < 0) || (decide (r.slots ≤ s.getD i default) || (decide (cst r i (s.getD i default) < 0) || (s.take i).any (fun x => decide (s.getD i default = x))))) := rfl
      simp only [c1, decide_true, cond_true, jn_eq, ck_eq c2, g0, h3, ih, e1, hm, ck_eq c3, ck_eq c4, e2, hr', hb, Option.bind_some]
      generalize cst r i (s.getD i default) = c
      generalize (s.take i).any (fun x => decide (s.getD i default = x)) = b
      generalize s.getD i default = v
      by_cases k1 : v < 0
      · simp [k1]
      by_cases k2 : r.slots ≤ v
      · simp [k1, k2]
      have c5 : (0 : Int) ≤ v ∧ v < r.slots := by omega
      simp only [ck_eq c5]
      by_cases k3 : c < 0
      · simp [k1, k2, k3]
      · cases b <;> simp [k1, k2, k3]
  · have : (s.length : Int) ≠ r.owners.length := by omega
    simp [this, hc]
theorem m24_eq (r : XRound) (s : List Int) (hs : smXRound r) (hl : s.length < 9223372036854775807) : m24_coalition_Allowed r s = some (bif valB r then (asgB r s, 0) else (false, 370)) := by
  unfold m24_coalition_Allowed
  rw [m22_eq r hs]
  cases hv : valB r
  · rfl
  · simp [m47_eq r s (Val.of hv) hl]
def goodB (r : XRound) (s : List Int) : Bool := valB r && asgB r s
theorem m39_eq (r : XRound) (s : List Int) (hs : smXRound r) (hl : s.length < 9223372036854775807) : m39_coalition_check r s = some (bif goodB r s then 0 else 370) := by
  unfold m39_coalition_check
  rw [m24_eq r s hs hl]
  unfold goodB
  cases hv : valB r
  · rfl
  · cases ha : asgB r s <;> rfl
def ownL (r : XRound) : List Int := (List.range r.owners.length).map fun i : Nat => (i : Int)
theorem m42_eq (r : XRound) (hv : Val r) : m42_coalition_own r = some (ownL r) := by
  unfold m42_coalition_own ownL
  have hn : r.owners.length ≤ 8 := by have := hv.s3; have := hv.s2; omega
  rw [List.range_eq_range']
  refine up_listB (fun i s => s.length = i) (fun i t s => some (s ++ (List.range' i t.length).map fun i : Nat => (i : Int))) r.owners (by omega) ?_ ?_ (by omega) (by rfl)
  · intro sf s hI; unfold m42_coalition_own_B0; simp
  · intro sf i s x t h1 h2 h3 hI ih
    unfold m42_coalition_own_B0
    have c1 : (i : Int) < (r.owners.length : Int) := by omega
    simp only [c1, decide_true, cond_true, h3]
    rw [ck_eq (by simp [hI]; omega), ih _ (by simp [hI])]
    simp [List.range'_succ]
end Go.Fx


/- Chapter 37: costs, worse. -/
set_option linter.unusedSimpArgs false
set_option linter.unusedVariables false
namespace Go.Fx
open Go Go.RowKit
theorem map_range_set {f g : Nat → Int} {k n : Nat} {v : Int} (hk : k < n) (hv : g k = v) (h : ∀ j, j ≠ k → g j = f j) : ((List.range n).map f).set k v = (List.range n).map g := by
  apply List.ext_getElem
  · simp
  · intro i h1 h2
    simp at h1
    by_cases e : k = i
    · subst e; simp [hv]
    · rw [List.getElem_set_ne e]; simp [h i (Ne.symm e)]
theorem getD_map_range {f : Nat → Int} {k n : Nat} (hk : k < n) : ((List.range n).map f).getD k default = f k := by simp [hk]
theorem csum_bound {own : Int → Int} {cost : Int → Int → Int} {o b : Int} {l : List (Int × Int)} (hb : 0 ≤ b) (h : ∀ p ∈ l, -b ≤ cost p.1 p.2 ∧ cost p.1 p.2 ≤ b) : -(b * l.length) ≤ csum own cost o l ∧ csum own cost o l ≤ b * l.length := by
  induction l with
  | nil => simp [csum]
  | cons p t ih =>
    obtain ⟨f, s⟩ := p
    have := ih fun p hp => h p (List.mem_cons_of_mem _ hp)
    have h1 := h (f, s) (List.mem_cons_self ..)
    simp only at h1
    simp only [csum, List.length_cons]
    have e : b * ((t.length + 1 : Nat) : Int) = b * t.length + b := by rw [Int.natCast_add, Int.mul_add]; simp
    rw [e]
    split <;> omega
/-- the costs of all airlines -/
def cvec (r : XRound) (fl s : List Int) : List Int := (List.range 8).map fun o : Nat => csum (ownr r) (cst r) (o : Int) (fl.zip s)
/-- flight f may have slot s -/
def fits (r : XRound) (f s : Int) : Prop := 0 ≤ f ∧ f < r.owners.length ∧ 0 ≤ s ∧ s < r.slots
theorem fits.cst {r : XRound} {f s : Int} (hv : Val r) (h : fits r f s) : -1 ≤ cst r f s ∧ cst r f s ≤ 1048576 := by
  obtain ⟨a, b, c, d⟩ := h
  have hr := hv.row f.toNat (by omega)
  exact hv.cost f.toNat (by omega) _ (getD_mem (by omega))
theorem zip_take_succ {l m : List Int} {i : Nat} (h1 : i < l.length) (h2 : i < m.length) : (l.zip m).take (i + 1) = (l.zip m).take i ++ [(l.getD i default, m.getD i default)] := by
  rw [List.take_succ_eq_append_getElem (by simp; omega)]
  simp [h1, h2]
theorem m41_eq (r : XRound) (fl s : List Int) (hv : Val r) (hl : fl.length ≤ 20) (hls : fl.length ≤ s.length) (hf : ∀ i < fl.length, fits r (fl.getD i default) (s.getD i default)) : m41_coalition_costs r fl s = some (cvec r fl s) := by
  unfold m41_coalition_costs
  rw [ck_eq (by decide)]
  have hz : (fl.zip s).take fl.length = fl.zip s := by rw [List.take_of_length_le (by simp; omega)]
  refine up_listB (fun i c => c = (List.range 8).map fun o : Nat => csum (ownr r) (cst r) (o : Int) ((fl.zip s).take i)) (fun i t c => some (cvec r fl s)) fl (by omega) ?_ ?_ (by omega) (by rfl)
  · intro sf c hI; unfold m41_coalition_costs_B0; rw [hz] at hI; simp [hI, cvec]
  · intro sf i c x t h1 h2 h3 hI ih
    unfold m41_coalition_costs_B0
    obtain ⟨a1, a2, a3, a4⟩ := hf i h1
    have g0 : fl.getD (i : Int).toNat default = fl.getD i default := rfl
    have g1 : s.getD (i : Int).toNat default = s.getD i default := rfl
    have hc := fits.cst hv (hf i h1)
    have hbound : ∀ o, -(1048576 * 20) ≤ csum (ownr r) (cst r) o ((fl.zip s).take i) ∧ csum (ownr r) (cst r) o ((fl.zip s).take i) ≤ 1048576 * 20 := by
      intro o
      have := csum_bound (own := ownr r) (cost := cst r) (o := o) (b := 1048576) (l := (fl.zip s).take i) (by omega) (fun p hp => by
        obtain ⟨j, hj, rfl⟩ := List.getElem_of_mem (List.mem_of_mem_take hp)
        simp at hj
        have := fits.cst hv (hf j (by omega))
        rw [getD_getElem (by omega), getD_getElem (by omega)] at this
        simp only [List.getElem_zip]; omega)
      have hle : ((fl.zip s).take i).length ≤ 20 := by simp; omega
      have : (1048576 : Int) * ((fl.zip s).take i).length ≤ 1048576 * 20 := by omega
      omega
    have e1 : (r.costs.getD (fl.getD i default).toNat default).getD (s.getD i default).toNat default = cst r (fl.getD i default) (s.getD i default) := rfl
    have e2 : r.owners.getD (fl.getD i default).toNat default = ownr r (fl.getD i default) := rfl
    have hro := hv.row (fl.getD i default).toNat (by omega)
    have ho := hv.own (fl.getD i default).toNat (by omega)
    rw [e2] at ho
    have hs4 := hv.s4
    simp only [show (i : Int) < (fl.length : Int) by omega, decide_true, cond_true, g0, g1, e1, e2]
    have hlen : c.length = 8 := by rw [hI]; simp
    have c1 : (0 : Int) ≤ i ∧ (i : Int) < fl.length := by omega
    have c2 : (0 : Int) ≤ fl.getD i default ∧ fl.getD i default < r.owners.length := ⟨a1, a2⟩
    have c3 : (0 : Int) ≤ ownr r (fl.getD i default) ∧ ownr r (fl.getD i default) < c.length := by omega
    have c4 : (0 : Int) ≤ fl.getD i default ∧ fl.getD i default < r.costs.length := by omega
    have c5 : (0 : Int) ≤ i ∧ (i : Int) < s.length := by omega
    have c6 : (0 : Int) ≤ s.getD i default ∧ s.getD i default < ((r.costs.getD (fl.getD i default).toNat default).length : Int) := by omega
    have cs := zip_take_succ h1 (show i < s.length by omega)
    simp only [true_and, ck_True, ck_eq c1, ck_eq c2, ck_eq c3, ck_eq c4, ck_eq c5, ck_eq c6, h3]
    refine ih _ ?_
    generalize fl.getD i default = f at *
    generalize s.getD i default = v at *
    have hk : ((ownr r f).toNat : Int) = ownr r f := by omega
    have hg : c.getD (ownr r f).toNat default = csum (ownr r) (cst r) (ownr r f) ((fl.zip s).take i) := by rw [hI, getD_map_range (by omega), hk]
    rw [hg, wrap_i64 (by have := hbound (ownr r f); omega) (by have := hbound (ownr r f); omega), hI]
    refine map_range_set (by omega) ?_ ?_
    · rw [cs, csum_append, hk]; simp [csum]
    · intro j hj; rw [cs, csum_append]; simp [csum]; omega
theorem asg_props {r : XRound} {s : List Int} (h : asgB r s = true) : s.length = r.owners.length ∧ ∀ i < s.length, 0 ≤ s.getD i default ∧ s.getD i default < r.slots ∧ 0 ≤ cst r i (s.getD i default) ∧ ∀ j < i, s.getD j default ≠ s.getD i default := by
  unfold asgB at h
  simp only [Bool.and_eq_true, decide_eq_true_eq, List.all_eq_true, List.mem_range] at h
  refine ⟨h.1, fun i hi => ?_⟩
  have := h.2 i hi
  unfold okS at this
  simp only [Bool.not_eq_true', Bool.or_eq_false_iff, decide_eq_false_iff_not, List.any_eq_false, decide_eq_true_eq] at this
  obtain ⟨b1, b2, b3, b4⟩ := this
  refine ⟨by omega, by omega, by omega, fun j hj e => b4 (s.getD j default) ?_ e.symm⟩
  have : (s.take i).getD j default ∈ s.take i := getD_mem (by rw [List.length_take]; omega)
  rwa [show (s.take i).getD j default = s.getD j default from by simp [hj]] at this
theorem ownL_len (r : XRound) : (ownL r).length = r.owners.length := by simp [ownL]
theorem ownL_getD {r : XRound} {i : Nat} (h : i < r.owners.length) : (ownL r).getD i default = i := by simp [ownL, h]
theorem fits_asg {r : XRound} {s : List Int} (hv : Val r) (h : asgB r s = true) : ∀ i < (ownL r).length, fits r ((ownL r).getD i default) (s.getD i default) := by
  intro i hi
  rw [ownL_len] at hi
  obtain ⟨e, h2⟩ := asg_props h
  obtain ⟨b1, b2, _, _⟩ := h2 i (by omega)
  rw [ownL_getD hi]
  exact ⟨by omega, by omega, b1, b2⟩
theorem fits_own {r : XRound} (hv : Val r) : ∀ i < (ownL r).length, fits r ((ownL r).getD i default) ((ownL r).getD i default) := by
  intro i hi
  rw [ownL_len] at hi
  rw [ownL_getD hi]
  have := hv.s3
  exact ⟨by omega, by omega, by omega, by omega⟩
theorem Val.n8 {r : XRound} (hv : Val r) : r.owners.length ≤ 8 := by have := hv.s3; have := hv.s2; omega
theorem cvec_asg {r : XRound} {s : List Int} (hv : Val r) (h : asgB r s = true) : m41_coalition_costs r (ownL r) s = some (cvec r (ownL r) s) :=
  m41_eq r _ s hv (by have := hv.n8; rw [ownL_len]; omega) (by rw [ownL_len, (asg_props h).1]; exact Nat.le_refl _) (fits_asg hv h)
theorem cvec_own {r : XRound} (hv : Val r) : m41_coalition_costs r (ownL r) (ownL r) = some (cvec r (ownL r) (ownL r)) :=
  m41_eq r _ _ hv (by have := hv.n8; rw [ownL_len]; omega) (Nat.le_refl _) (fits_own hv)
theorem good_props {r : XRound} {s : List Int} (h : goodB r s = true) : Val r ∧ asgB r s = true := by
  unfold goodB at h; simp only [Bool.and_eq_true] at h; exact ⟨Val.of h.1, h.2⟩
theorem m18_eq (r : XRound) (s : List Int) (hs : smXRound r) (hl : s.length < 9223372036854775807) : m18_coalition_Costs r s = some (bif goodB r s then (cvec r (ownL r) s, 0) else ([], 370)) := by
  unfold m18_coalition_Costs
  rw [m39_eq r s hs hl]
  cases hg : goodB r s
  · rfl
  · obtain ⟨hv, ha⟩ := good_props hg
    simp [m42_eq r hv, cvec_asg hv ha]
/-- the airlines that are worse off -/
def worseL (r : XRound) (s : List Int) : List Int := ((List.range 8).filter fun i => decide ((cvec r (ownL r) (ownL r)).getD i default < (cvec r (ownL r) s).getD i default)).map fun i : Nat => (i : Int)
theorem filter_range' {p : Nat → Bool} (i n : Nat) : (List.range' i (n + 1)).filter p = (if p i then [i] else []) ++ (List.range' (i + 1) n).filter p := by
  rw [List.range'_succ, List.filter_cons]; split <;> simp
theorem m23_eq (r : XRound) (s : List Int) (hs : smXRound r) (hl : s.length < 9223372036854775807) : m23_coalition_Worse r s = some (bif goodB r s then (worseL r s, 0) else ([], 370)) := by
  unfold m23_coalition_Worse
  rw [m39_eq r s hs hl]
  cases hg : goodB r s
  · rfl
  · obtain ⟨hv, ha⟩ := good_props hg
    simp only [cond_true, ne_eq, not_true_eq_false, decide_false, Option.bind_some, m42_eq r hv, cvec_asg hv ha, cvec_own hv, cond_false]
    unfold worseL
    rw [List.range_eq_range']
    have e1 : (cvec r (ownL r) (ownL r)).length = 8 := by simp [cvec]
    have e2 : (cvec r (ownL r) s).length = 8 := by simp [cvec]
    generalize cvec r (ownL r) (ownL r) = b at *
    generalize cvec r (ownL r) s = a at *
    rw [← e2]
    refine up_listB (fun i l => l.length ≤ i) (fun i t l => some (l ++ ((List.range' i t.length).filter fun i => decide (b.getD i default < a.getD i default)).map (fun i : Nat => (i : Int)), 0)) a (by omega) ?_ ?_ (by omega) (by exact Nat.le_refl _)
    · intro sf l hI; unfold m23_coalition_Worse_B0; simp
    · intro sf i l x t h1 h2 h3 hI ih
      unfold m23_coalition_Worse_B0
      have g0 : a.getD (i : Int).toNat default = a.getD i default := rfl
      have g1 : b.getD (i : Int).toNat default = b.getD i default := rfl
      have c1 : (0 : Int) ≤ i ∧ (i : Int) < a.length := by omega
      have c2 : (0 : Int) ≤ i ∧ (i : Int) < b.length := by omega
      have c3 : (l.length + [(i : Int)].length) * 8 ≤ 140737488355328 := by simp; omega
      simp only [decide_eq_true c1.2, cond_true, g0, g1, h3, ck_eq c1, ck_eq c2, ck_eq c3]
      rw [show (x :: t).length = t.length + 1 from rfl, filter_range']
      by_cases q : b.getD i default < a.getD i default
      · rw [decide_eq_true q, cond_true, ih _ (by simp; omega)]; simp
      · rw [decide_eq_false q, cond_false, ih _ (by omega)]; simp
end Go.Fx


/- CoalitionSums: costs are sums. -/
set_option linter.unusedSimpArgs false
set_option linter.unusedVariables false
namespace Go.Fx
open Go Go.RowKit
theorem csum_small {r : XRound} {fl s : List Int} (hv : Val r) (hl : fl.length ≤ 20) (hls : fl.length ≤ s.length) (hf : ∀ i < fl.length, fits r (fl.getD i default) (s.getD i default)) (i : Nat) (o : Int) : -(1048576 * 20) ≤ csum (ownr r) (cst r) o ((fl.zip s).take i) ∧ csum (ownr r) (cst r) o ((fl.zip s).take i) ≤ 1048576 * 20 := by
  have := csum_bound (own := ownr r) (cost := cst r) (o := o) (b := 1048576) (l := (fl.zip s).take i) (by omega) (fun p hp => by
    obtain ⟨j, hj, rfl⟩ := List.getElem_of_mem (List.mem_of_mem_take hp)
    simp at hj
    have := fits.cst hv (hf j (by omega))
    rw [getD_getElem (by omega), getD_getElem (by omega)] at this
    simp only [List.getElem_zip]; omega)
  have hle : ((fl.zip s).take i).length ≤ 20 := by simp; omega
  have : (1048576 : Int) * ((fl.zip s).take i).length ≤ 1048576 * 20 := by omega
  omega
theorem nth_filter (p : Nat → Bool) {v m : Nat} (hv : v < m) : (decide (((List.range v).filter p).length < ((List.range m).filter p).length) && decide (((List.range m).filter p).getD ((List.range v).filter p).length default = v)) = p v := by
  have e : List.range m = List.range v ++ v :: List.range' (v + 1) (m - v - 1) := by
    have := List.range'_append_1 (s := 0) (m := v) (n := m - v - 1 + 1)
    rw [List.range_eq_range', List.range_eq_range', ← List.range'_succ]
    rw [Nat.zero_add] at this; rw [this]; congr 1; omega
  rw [e, List.filter_append, List.filter_cons]
  cases h : p v
  · simp only [Bool.false_eq_true, if_false]
    cases hf : (List.range' (v + 1) (m - v - 1)).filter p with
    | nil => simp
    | cons x t =>
      have : x ∈ (List.range' (v + 1) (m - v - 1)).filter p := by rw [hf]; exact List.mem_cons_self ..
      have := (List.mem_range'_1.1 (List.mem_filter.1 this).1).1
      simp; omega
  · simp
theorem CoalitionSums_law (r : XRound) (slots : List Int) (hr : smXRound r) (hs : SmL (InK .i64) slots) : m5_overflightlaw37_CoalitionSums r slots = some true := by
  have hl : slots.length < 9223372036854775807 := by have := hs.1; omega
  unfold m5_overflightlaw37_CoalitionSums
  rw [sane_eq, m16_eq r hr]
  simp only [Option.bind_some, Bool.not_true, cond_false, jn_eq, m18_eq r slots hr hl, m23_eq r slots hr hl, m24_eq r slots hr hl]
  cases hf : fewB r
  · rfl
  by_cases hc : 20 < (slots.length : Int)
  · simp [hc]
  simp only [Bool.not_true, cond_false, hc, decide_false]
  cases hg : goodB r slots
  · unfold goodB at hg
    cases h1 : valB r
    · simp
    · rw [h1] at hg; have : asgB r slots = false := hg
      simp [this]
  obtain ⟨hv, ha⟩ := good_props hg
  have hvB : valB r = true := by unfold goodB at hg; simp at hg; exact hg.1
  have hlen : slots.length = r.owners.length := (asg_props ha).1
  have hlen' : (slots.length : Int) = r.owners.length := by omega
  have hc8 : (cvec r (ownL r) slots).length = 8 := by simp [cvec]
  simp only [cond_true, ne_eq, not_true_eq_false, decide_false, cond_false, hvB, ha, Bool.not_true, hc8, hlen']
  have h20 : (ownL r).length ≤ 20 := by rw [ownL_len]; have := hv.n8; omega
  have hls : (ownL r).length ≤ slots.length := by rw [ownL_len, hlen]; exact Nat.le_refl _
  have S1 := csum_small hv h20 hls (fits_asg hv ha)
  have S2 := csum_small hv h20 (Nat.le_refl _) (fits_own hv)
  let wp : Nat → Bool := fun i => decide ((cvec r (ownL r) (ownL r)).getD i default < (cvec r (ownL r) slots).getD i default)
  have hw : worseL r slots = ((List.range 8).filter wp).map fun i : Nat => (i : Int) := rfl
  have hwn : ∀ v, ((List.range v).filter wp).length ≤ v := fun v => by have := List.length_filter_le wp (List.range v); simpa using this
  simp only [show (((8 : Nat) : Int) = 8) from rfl, not_true_eq_false, decide_false, cond_false]
  refine up_listB (s := (0 : Int)) (fun (v : Nat) (n : Int) => n = (((List.range v).filter wp).length : Nat)) (fun _ _ _ => some true) (List.range 8) (by decide) ?_ ?_ (show (List.range 8).length < ((8 : Int) - 0).toNat + 1 by decide) (by rfl)
  · intro sf n hI
    unfold m5_overflightlaw37_CoalitionSums_B0
    simp [hw, hI]
  · intro sf v n x t h1 h2 h3 hI ih
    have h8 : v < 8 := by simpa using h1
    unfold m5_overflightlaw37_CoalitionSums_B0
    rw [decide_eq_true (show (v : Int) < 8 by omega), cond_true, jn_eq, h3]
    refine up_list (L := fun f i (s : Int × Int) => loop3 (m5_overflightlaw37_CoalitionSums_B1 r slots (cvec r (ownL r) slots, 0) (worseL r slots, 0) n (v : Int) (fun n_2 => sf n_2 ((v : Int) + 1))) f s.1 s.2 i)
      (fun i s => s.1 = csum (ownr r) (cst r) (v : Int) (((ownL r).zip slots).take i) ∧ s.2 = csum (ownr r) (cst r) (v : Int) (((ownL r).zip (ownL r)).take i)) (fun _ _ _ => some true) r.owners (by have := hv.n8; omega) ?_ ?_ (((r.owners.length : Int) - 0).toNat + 1) (0, 0) (by omega) ⟨rfl, rfl⟩
    · rintro f ⟨s1, s2⟩ ⟨e1, e2⟩
      dsimp only at e1 e2 ⊢
      rw [loop3_succ]
      unfold m5_overflightlaw37_CoalitionSums_B1
      rw [List.take_of_length_le (by simp [ownL_len, hlen])] at e1 e2
      have g1 : (cvec r (ownL r) slots).getD (v : Int).toNat default = s1 := by rw [e1]; exact getD_map_range h8
      have g2 : (cvec r (ownL r) (ownL r)).getD v default = s2 := by rw [e2]; exact getD_map_range h8
      have g1' : (cvec r (ownL r) slots).getD v default = s1 := g1
      have hp := nth_filter wp h8
      have hpv : wp v = decide (s2 < s1) := by show decide (_ < _) = _; rw [g1', g2]
      have hn0 : 0 ≤ n := by omega
      have hnn : n.toNat = ((List.range v).filter wp).length := by omega
      have nx := hwn v
      have hS : ∀ m : Int, m = ((List.range (v + 1)).filter wp).length → sf m ((v : Int) + 1) = some true := ih
      rw [List.range_succ, List.filter_append, List.length_append] at hS
      have c1 : ¬ (r.owners.length : Int) < r.owners.length := by omega
      have c2 : (0 : Int) ≤ v ∧ (v : Int) < (cvec r (ownL r) slots).length := by omega
      have wl : (worseL r slots).length = ((List.range 8).filter wp).length := by rw [hw]; simp
      have wg : n.toNat < (worseL r slots).length → (worseL r slots).getD n.toNat default = (((List.range 8).filter wp).getD n.toNat default : Nat) := by
        intro h; rw [wl] at h; rw [hw]; simp [h]
      simp only [decide_eq_false c1, cond_false, jn_eq, ck_eq c2, g1, ne_eq, not_true_eq_false, decide_false]
      have key : (decide (n < ((worseL r slots).length : Int)) && decide ((worseL r slots).getD n.toNat default = (v : Int))) = decide (s2 < s1) := by
        rw [← hpv, ← hp]
        by_cases q : n.toNat < (worseL r slots).length
        · rw [wg q, hnn]
          rw [hnn, wl] at q
          have q2 : n < ((worseL r slots).length : Int) := by omega
          rw [decide_eq_true q2, decide_eq_true q]
          congr 1; simp only [decide_eq_decide]; omega
        · have q2 : ¬ n < ((worseL r slots).length : Int) := by omega
          have q3 : ¬ ((List.range v).filter wp).length < ((List.range 8).filter wp).length := by omega
          rw [decide_eq_false q2, decide_eq_false q3]; rfl
      have hfl : ([v].filter wp).length = if s2 < s1 then 1 else 0 := by
        rw [List.filter_cons, hpv]; by_cases q : s2 < s1 <;> simp [q]
      rw [hfl] at hS
      by_cases q : s2 < s1
      · rw [decide_eq_true q] at key
        simp only [Bool.and_eq_true, decide_eq_true_eq] at key
        have c3 : (0 : Int) ≤ n ∧ n < (worseL r slots).length := ⟨hn0, key.1⟩
        rw [decide_eq_true key.1, cond_true, ck_eq c3, decide_eq_true key.2, decide_eq_true q]
        simp only [cond_true, BEq.rfl, Bool.not_true, cond_false]
        rw [wrap_i64 (by omega) (by omega)]
        exact hS _ (by rw [if_pos q]; omega)
      · rw [decide_eq_false q] at key ⊢
        have hS' := hS n (by rw [if_neg q]; omega)
        by_cases q2 : n < ((worseL r slots).length : Int)
        · have c3 : (0 : Int) ≤ n ∧ n < (worseL r slots).length := ⟨hn0, q2⟩
          rw [decide_eq_true q2, Bool.true_and] at key
          rw [decide_eq_true q2, cond_true, ck_eq c3, key]
          simp [hS']
        · rw [decide_eq_false q2]; simp [hS']
    · rintro f i ⟨s1, s2⟩ y u j1 j2 j3 ⟨e1, e2⟩ ih2
      dsimp only at e1 e2 ⊢
      rw [loop3_succ]
      generalize loop3 _ f = SF at ih2 ⊢
      unfold m5_overflightlaw37_CoalitionSums_B1
      have g0 : r.owners.getD (i : Int).toNat default = r.owners.getD i default := rfl
      have g1 : slots.getD (i : Int).toNat default = slots.getD i default := rfl
      have g2 : (r.costs.getD (i : Int).toNat default).getD (slots.getD i default).toNat default = cst r i (slots.getD i default) := rfl
      have g3 : (r.costs.getD (i : Int).toNat default).getD (i : Int).toNat default = cst r i i := rfl
      have hi : i < slots.length := by omega
      have hio : i < (ownL r).length := by rw [ownL_len]; omega
      have fa := fits_asg hv ha i hio
      have fo := fits_own hv i hio
      rw [ownL_getD j1] at fa fo
      have t1 := zip_take_succ hio hi
      have t2 := zip_take_succ hio hio
      rw [ownL_getD j1] at t1 t2
      have n1 := csum_append (ownr r) (cst r) (v : Int) (((ownL r).zip slots).take i) [((i : Int), slots.getD i default)]
      have n2 := csum_append (ownr r) (cst r) (v : Int) (((ownL r).zip (ownL r)).take i) [((i : Int), (i : Int))]
      rw [← t1, ← e1] at n1
      rw [← t2, ← e2] at n2
      have b1 := S1 i (v : Int)
      have b2 := S2 i (v : Int)
      rw [← e1] at b1
      rw [← e2] at b2
      have ca := fits.cst hv fa
      have co := fits.cst hv fo
      have c1 : (0 : Int) ≤ i ∧ (i : Int) < r.owners.length := by omega
      have c2 : (0 : Int) ≤ i ∧ (i : Int) < r.costs.length := by have := hv.s4; omega
      have c3 : (0 : Int) ≤ i ∧ (i : Int) < slots.length := by omega
      have hrow := hv.row i (by omega)
      obtain ⟨_, _, a3, a4⟩ := fa
      obtain ⟨_, _, o3, o4⟩ := fo
      have hrow' : ((r.costs.getD (i : Int).toNat default).length : Int) = r.slots := hrow
      have c4 : (0 : Int) ≤ slots.getD i default ∧ slots.getD i default < ((r.costs.getD (i : Int).toNat default).length : Int) := by omega
      have c5 : (0 : Int) ≤ i ∧ (i : Int) < ((r.costs.getD (i : Int).toNat default).length : Int) := by omega
      simp only [decide_eq_true c1.2, cond_true, ck_eq c1, ck_eq c2, ck_eq c3, ck_eq c4, ck_eq c5, g0, g1, j3]
      simp only [g2, g3]
      have hown : ownr r i = r.owners.getD i default := rfl
      by_cases q : r.owners.getD i default = (v : Int)
      · have w1 : IntKind.i64.wrap (s1 + cst r i (slots.getD i default)) = s1 + cst r i (slots.getD i default) := wrap_i64 (by omega) (by omega)
        have w2 : IntKind.i64.wrap (s2 + cst r i i) = s2 + cst r i i := wrap_i64 (by omega) (by omega)
        rw [decide_eq_true q, cond_true, w1, w2]
        refine ih2 (_, _) ⟨?_, ?_⟩
        · rw [n1]; simp only [csum]; rw [if_pos (hown.trans q)]; omega
        · rw [n2]; simp only [csum]; rw [if_pos (hown.trans q)]; omega
      · rw [decide_eq_false q, cond_false]
        refine ih2 (_, _) ⟨?_, ?_⟩
        · rw [n1]; simp only [csum]; rw [if_neg (hown ▸ q)]; omega
        · rw [n2]; simp only [csum]; rw [if_neg (hown ▸ q)]; omega
end Go.Fx


namespace Go.Proofs.Ythakjfdppgdmaaa.lawCoalitionSums
open Go Go.Proofs Go.ChangeShapes Go.WideShapes Go.ChangeAt Go.RowKit Go.Fx
open Go.ChangeMaps (open_string shut_string)
set_option linter.unusedVariables false
set_option maxRecDepth 100000
theorem own : ownKnob Try.prog.godebug = none := by kernel_rfl
theorem laidOut : laidOutB Try.prog = true := by kernel_rfl
set_option maxRecDepth 100000 in
set_option maxHeartbeats 1000000 in
theorem lifted (os : Os) (started : os.Started) (H : Type) (enc : TypeId × Value → H) :
    ReturnsInHanded {} Try.checked os 5 .any (Rows.coalitionSumsSpec.pre6 enc Try.prog Try.f5 Rows.coalitionSumsRow.domain false) (Rows.coalitionSumsSpec.post enc Try.prog Try.f5 false true false false) := by
  refine returnsInHanded_of_change_sized (C := Try.checked) own started (by kernel_rfl) Try.func5
    (ChangeSpec.witness6 (enc := enc) (C := Try.checked) false ⟨#[], #[.agg #[(.int .i64 0), (.slice none 0 0), (.slice none 0 0)], (.slice none 0 0)], []⟩ 8 (by kernel_rfl) (by kernel_rfl) (by kernel_rfl) (by kernel_rfl)) ?_
  intro W base args ds gs before hval0 hW hcnd hsz _
  have hval : ∀ (j : Nat) t v, Try.f5.params[j]? = some t → args[j]? = some v → Value.okWide Try.prog W .any base t v := hval0
  have hW' := hW
  obtain ⟨p, q, hA0, hV, rfl, hfz, hnd⟩ := hW
  have hA : DataW.TrodAll enc Try.prog W 0 (fun _ => true) true Try.f5.params.toList args.toList ds p := hA0
  rw [Try.params5] at hA hval
  obtain ⟨v0, vs0, d0, ds0, p0, q0, hargs, rfl, rfl, h0, r0⟩ := trodAll_cons hA
  obtain ⟨v1, vs1, d1, ds1, p1, q1, rfl, rfl, rfl, h1, r1⟩ := trodAll_cons r0
  obtain ⟨rfl, rfl, rfl⟩ := trodAll_nil r1
  obtain rfl : args = #[v0, v1] := by cases args; simp_all
  obtain ⟨rfl, rfl⟩ := trodVars_none hV
  have k0 := h0
  have lt0 : ∀ x ∈ p0, x.block < W.heap.size := by obtain ⟨m, hm⟩ := k0; exact DataW.trod_lt m _ _ _ hm
  obtain ⟨fu0, hf0⟩ := h0
  obtain ⟨r_, rr0, sm0⟩ := rd25.2 _ _ _ hf0
  replace sm0 := sm0 (fun n hn => by have := List.all_eq_true.1 hsz n (DataW.weights_mem_each (j := 0) (t := 25) rfl rfl n hn); simpa using this)
  obtain ⟨⟨cs0⟩, rfl, _⟩ := okWide_struct Try.underlying25 (hval 0 25 v0 rfl rfl)
  replace rr0 : rXRound.rd W [] cs0 r_ := rr0
  obtain ⟨_, _, rfl, ⟨rfl, r_r__slots⟩, ⟨_, _, rfl, ⟨a_r__owners, c_r__owners, rfl, f_r__owners⟩, ⟨a_r__costs, c_r__costs, rfl, f_r__costs⟩⟩⟩ := rr0
  have k1 := h1
  have lt1 : ∀ x ∈ p1, x.block < W.heap.size := by obtain ⟨m, hm⟩ := k1; exact DataW.trod_lt m _ _ _ hm
  obtain ⟨fu1, hf1⟩ := h1
  obtain ⟨slots, rr1, sm1⟩ := rd22.2 _ _ _ hf1
  replace sm1 := sm1 (fun n hn => by have := List.all_eq_true.1 hsz n (DataW.weights_mem_each (j := 1) (t := 22) rfl rfl n hn); simpa using this)
  obtain ⟨b1, l1, c1, rfl⟩ := okWide_slice Try.underlying22 (hval 1 22 v1 rfl rfl)
  replace rr1 : (rSl (rInt .i64)).rd W [] [.slice b1 l1 c1] slots := rr1
  obtain ⟨a_slots, c_slots, e1, f_slots⟩ := un_sl rr1
  simp only [Value.slice.injEq] at e1
  obtain ⟨rfl, rfl, rfl⟩ := e1
  have hm : m5_overflightlaw37_CoalitionSums r_ slots = some true := CoalitionSums_law _ _ sm0 sm1
  have hc := Fn.calls (c5_overflightlaw37_CoalitionSums (r_ := r_) (slots := slots) (w := W) (O := []) (by simp) r_r__slots f_r__owners f_r__costs f_slots hm)
  clear hA0 hval0
  refine Calls.mono hc ?_
  rintro e W' ⟨v, rfl, bel, hv⟩
  replace bel := bel.below; obtain rfl : v = .bool true := hv
  exact ⟨_, rfl, _, _, _, [], _, [], hW', trodAll_mk1 (shut_bool Try.underlying4 _), (trodAll_cons_mk (Below.trod laidOut (by kernel_rfl) (of_decide_eq_true (by kernel_rfl)) k0 bel lt0) (trodAll_cons_mk (Below.trod laidOut (by kernel_rfl) (of_decide_eq_true (by kernel_rfl)) k1 bel lt1) trodAll_mk0)), rfl, bel.frame _, fun h => by cases h⟩
theorem over : Rows.coalitionSumsRow.holds Try.pinned (OpenSpec.ofChange Rows.coalitionSumsSpec) :=
  OpenClaim.holds_of_wide 5 Try.f5 rfl rfl rfl rfl rfl rfl rfl ⟨rfl, rfl, rfl, rfl, rfl⟩ rfl rfl rfl rfl rfl (by kernel_rfl) Try.func5 (by kernel_rfl)
    (of_decide_eq_true (by kernel_rfl)) (by unfold Func.isWrapper; first | (rw [if_pos (by decide +kernel)]; kernel_rfl) | (rw [if_neg (by decide +kernel)]; exact ⟨rfl, rfl⟩))
    (fun os started H enc _ => lifted os started H enc)
theorem proved : Rows.CoalitionSumsSaid := over
end Go.Proofs.Ythakjfdppgdmaaa.lawCoalitionSums

