/- For every three vectors, the law VectorTotal of chapter 06 returns true. -/
import Derived.Test.YteohplgecfdafaaTotal3
import Derived.Test.YteohplgecfdafaaRows
import Derived.WalkKit
import Derived.ShutString
set_option linter.unusedVariables false
set_option linter.unusedSimpArgs false
set_option maxRecDepth 100000
set_option maxHeartbeats 0
namespace Go.Fx
open Go Go.RowKit Go.Proofs
def m8_overflightlaw06_VectorTotal (a : List Int) (b : List Int) (c : List Int) : Option Bool :=
  (m11_overflightlaw06_sane).bind fun sane_1 =>
  bif (!sane_1) then
    some false
  else
    (m12_overflightlaw06_short [a, b, c]).bind fun short_1 =>
    bif (!short_1) then
      some true
    else
      (m17_vector_Compare a b).bind fun compare_1 =>
      (m17_vector_Compare b c).bind fun compare_2 =>
      (m17_vector_Compare a c).bind fun compare_3 =>
      (m17_vector_Compare b a).bind fun compare_4 =>
      jn (fun (v_1 : Bool) =>
        bif v_1 then
          jn (fun (v_2 : Bool) =>
            some v_2)
          (fun k94 =>
            bif (decide (compare_4.2 = compare_1.2)) then
              bif (decide (compare_1.2 = 0)) then
                bif (decide (compare_2.2 = 0)) then
                  k94 true
                else
                  k94 (decide (compare_2.2 = 60))
              else
                bif (decide (compare_1.2 = 60)) then
                  bif (decide (compare_2.2 = 0)) then
                    k94 true
                  else
                    k94 (decide (compare_2.2 = 60))
                else
                  k94 false
            else
              k94 false)
        else
          jn (fun (v_3 : Bool) =>
            bif v_3 then
              some false
            else
              jn (fun (v_4 : Bool) =>
                some v_4)
              (fun k121 =>
                bif (decide (compare_1.1 ≤ 0)) then
                  bif (decide (compare_2.1 ≤ 0)) then
                    bif (!(decide (0 < compare_3.1))) then
                      (m28_overflightlaw06_below a b).bind fun below_1 =>
                      bif below_1 then
                        (m28_overflightlaw06_below b c).bind fun below_2 =>
                        bif below_2 then
                          (m28_overflightlaw06_below a c).bind fun below_3 =>
                          k121 (!(!below_3))
                        else
                          k121 true
                      else
                        k121 true
                    else
                      k121 false
                  else
                    (m28_overflightlaw06_below a b).bind fun below_4 =>
                    bif below_4 then
                      (m28_overflightlaw06_below b c).bind fun below_5 =>
                      bif below_5 then
                        (m28_overflightlaw06_below a c).bind fun below_6 =>
                        k121 (!(!below_6))
                      else
                        k121 true
                    else
                      k121 true
                else
                  (m28_overflightlaw06_below a b).bind fun below_7 =>
                  bif below_7 then
                    (m28_overflightlaw06_below b c).bind fun below_8 =>
                    bif below_8 then
                      (m28_overflightlaw06_below a c).bind fun below_9 =>
                      k121 (!(!below_9))
                    else
                      k121 true
                  else
                    k121 true))
          (fun k110 =>
            bif (decide (compare_3.2 ≠ 0)) then
              k110 true
            else
              bif (decide (compare_4.2 ≠ 0)) then
                k110 true
              else
                bif (decide (compare_1.1 < (-1))) then
                  k110 true
                else
                  bif (decide (1 < compare_1.1)) then
                    k110 true
                  else
                    bif (decide (compare_1.1 ≠ (IntKind.wrap .i64 (0 - compare_4.1)))) then
                      k110 true
                    else
                      (m19_overflightref06_Same a b).bind fun same_1 =>
                      bif (!((decide (compare_1.1 = 0)) == same_1)) then
                        k110 true
                      else
                        (m28_overflightlaw06_below a b).bind fun below_10 =>
                        bif below_10 then
                          k110 (decide (0 < compare_1.1))
                        else
                          k110 false))
      (fun k83 =>
        bif (decide (compare_1.2 ≠ 0)) then
          k83 true
        else
          k83 (decide (compare_2.2 ≠ 0)))

theorem c8_overflightlaw06_VectorTotal {w : World} {O : List Nat} {a : List Int} {b : List Int} {c : List Int} {a_a : Option Addr} {c_a : Nat} {a_b : Option Addr} {c_b : Nat} {a_c : Option Addr} {c_c : Nat} (hO : ∀ k ∈ O, k < w.heap.size) (f_a : SlR (rInt .i64) w O a_a c_a a) (f_b : SlR (rInt .i64) w O a_b c_b b) (f_c : SlR (rInt .i64) w O a_c c_c c) {x : Bool} (hm : m8_overflightlaw06_VectorTotal a b c = some x) :
    Ok Try.prog 8 [(Value.slice a_a a.length c_a), (Value.slice a_b b.length c_b), (Value.slice a_c c.length c_c)] w O vB x := by
  unfold m8_overflightlaw06_VectorTotal at hm
  refine Fn_of_Wp (n := 137) (xs := [.tmp 6]) Try.func8 rfl Try.ntmps8 Try.results8 rfl ?_
  have hs := St.start hO
  refine Wp_seq ?_
  refine Wp_region ?_  -- 0 law.go:160
  refine Rg_op rfl (op_assign (v := (Value.bool false)) rfl ?_)
  refine Rg_nil ?_
  refine Wp_seq ?_
  refine Wp_seq ?_
  refine Wp_region ?_  -- 1 law.go:161
  replace hm := bd hm; obtain ⟨sane_1, hv1, hm⟩ := hm
  refine Rg_op rfl (op_call Try.call11 (c11_overflightlaw06_sane  hs.ltw  hv1) rfl ?_)
  rintro v2 w3 ⟨hx4, h5⟩
  have hs6 := hs.call hx4
  have p7 := Step.ext (O := ks [] O) hx4
  clear hx4
  replace f_a := f_a.step p7
  replace f_b := f_b.step p7
  replace f_c := f_c.step p7
  clear p7
  obtain rfl := h5
  refine Rg_op rfl (op_not rfl ?_)
  refine Rg_nil ?_
  refine Wp_cond rfl (fun hc9 => ?_) (fun hc9 => ?_)
  ·
    replace hm := bif_t hm hc9
    refine Wp_seq ?_
    clear f_a f_b f_c
    refine Wp_region ?_  -- 2 law.go:162
    refine Rg_op rfl (op_assign (v := (Value.bool false)) rfl ?_)
    refine Rg_nil ?_
    refine Wp_ret ?_
    have hz := step_all hs6
    refine ⟨_, (show Closes [] _ _ from rfl), [(Value.bool false)], ⟨rfl, trivial⟩, hs6.ext, ?_⟩
    exact Vr.eq (a := vB) (x := false) rfl (Option.some.inj hm)
  ·
    replace hm := bif_f hm hc9
    refine Wp_skip ?_
    refine Wp_seq ?_
    refine Wp_seq ?_
    refine Wp_region ?_  -- 3 law.go:164
    refine Rg_op rfl (op_move (v := (Value.slice a_a a.length c_a)) rfl ?_)
    refine Rg_op rfl (op_move (v := (Value.slice a_b b.length c_b)) rfl ?_)
    refine Rg_op rfl (op_move (v := (Value.slice a_c c.length c_c)) rfl ?_)
    refine Rg_op rfl (op_buildSlice (cs := [(Value.slice a_a a.length c_a), (Value.slice a_b b.length c_b), (Value.slice a_c c.length c_c)]) (parts := [(0, .tmp 17), (1, .tmp 18), (2, .tmp 19)]) ty33 ty22 hs6 (by decide) rfl ?_)
    intro b10 w11 hx14 p12 hs13
    replace f_a := f_a.step p12
    replace f_b := f_b.step p12
    replace f_c := f_c.step p12
    clear p12 hs6
    obtain ⟨hs17, p18, f16⟩ := St.publish (i := 0) (o := 0) (c := 3) (xs := [a, b, c]) hs13 rfl (show Els (rSl (rInt .i64)) _ _ [(Value.slice a_a a.length c_a), (Value.slice a_b b.length c_b), (Value.slice a_c c.length c_c)] [a, b, c] from ⟨_, _, rfl, (mk_sl f_a), ⟨_, _, rfl, (mk_sl f_b), ⟨_, _, rfl, (mk_sl f_c), Els.nil⟩⟩⟩) (le_lit rfl) (le_lit rfl) (le_lit rfl)
    replace f_a := f_a.step p18
    replace f_b := f_b.step p18
    replace f_c := f_c.step p18
    clear p18 hs13
    replace hm := bd hm; obtain ⟨short_1, hv19, hm⟩ := hm
    refine Rg_op rfl (op_call Try.call12 (c12_overflightlaw06_short (l := [a, b, c]) hs17.ltw f16 hv19) rfl ?_)
    rintro v20 w21 ⟨hx22, h23⟩
    have hs24 := hs17.call hx22
    have p25 := Step.ext (O := ks [] O) hx22
    clear hx22
    replace f_a := f_a.step p25
    replace f_b := f_b.step p25
    replace f_c := f_c.step p25
    replace f16 := f16.step p25
    clear p25 hs17
    obtain rfl := h23
    refine Rg_op rfl (op_not rfl ?_)
    refine Rg_nil ?_
    refine Wp_cond rfl (fun hc27 => ?_) (fun hc27 => ?_)
    ·
      replace hm := bif_t hm hc27
      refine Wp_seq ?_
      clear f_a f_b f_c f16
      refine Wp_region ?_  -- 4 law.go:165
      refine Rg_op rfl (op_assign (v := (Value.bool true)) rfl ?_)
      refine Rg_nil ?_
      refine Wp_ret ?_
      have hz := step_all hs24
      refine ⟨_, (show Closes [] _ _ from rfl), [(Value.bool true)], ⟨rfl, trivial⟩, hs24.ext, ?_⟩
      exact Vr.eq (a := vB) (x := true) rfl (Option.some.inj hm)
    ·
      replace hm := bif_f hm hc27
      refine Wp_skip ?_
      refine Wp_seq ?_
      clear f16
      refine Wp_region ?_  -- 5 law.go:167
      refine Rg_op rfl (op_move (v := (Value.slice a_a a.length c_a)) rfl ?_)
      refine Rg_op rfl (op_move (v := (Value.slice a_b b.length c_b)) rfl ?_)
      replace hm := bd hm; obtain ⟨compare_1, hv28, hm⟩ := hm
      refine Rg_op rfl (op_call Try.call17 (c17_vector_Compare (a := a) (b := b) hs24.ltw f_a f_b hv28) rfl ?_)
      rintro v29 w30 ⟨hx31, h32⟩
      have hs33 := hs24.call hx31
      have p34 := Step.ext (O := ks [] O) hx31
      clear hx31
      replace f_a := f_a.step p34
      replace f_b := f_b.step p34
      replace f_c := f_c.step p34
      clear p34 hs24
      obtain ⟨v35, v36, rfl, h37, h38⟩ := h32
      obtain ⟨rfl, r_y39⟩ := h37
      obtain ⟨rfl, r_y40⟩ := h38
      refine Rg_op rfl (op_move (v := (Value.tuple [(Value.int .i64 compare_1.1), (Value.int .i64 compare_1.2)].toArray)) rfl ?_)
      refine Rg_op rfl (op_extract (v := (Value.int .i64 compare_1.1)) rfl rfl ?_)
      refine Rg_op rfl (op_extract (v := (Value.int .i64 compare_1.2)) rfl rfl ?_)
      refine Rg_op rfl (op_assign (v := (Value.int .i64 compare_1.1)) rfl ?_)
      refine Rg_op rfl (op_assign (v := (Value.int .i64 compare_1.2)) rfl ?_)
      refine Rg_nil ?_
      refine Wp_seq ?_
      refine Wp_region ?_  -- 6 law.go:168
      refine Rg_op rfl (op_move (v := (Value.slice a_b b.length c_b)) rfl ?_)
      refine Rg_op rfl (op_move (v := (Value.slice a_c c.length c_c)) rfl ?_)
      replace hm := bd hm; obtain ⟨compare_2, hv41, hm⟩ := hm
      refine Rg_op rfl (op_call Try.call17 (c17_vector_Compare (a := b) (b := c) hs33.ltw f_b f_c hv41) rfl ?_)
      rintro v42 w43 ⟨hx44, h45⟩
      have hs46 := hs33.call hx44
      have p47 := Step.ext (O := ks [] O) hx44
      clear hx44
      replace f_a := f_a.step p47
      replace f_b := f_b.step p47
      replace f_c := f_c.step p47
      clear p47 hs33
      obtain ⟨v48, v49, rfl, h50, h51⟩ := h45
      obtain ⟨rfl, r_y52⟩ := h50
      obtain ⟨rfl, r_y53⟩ := h51
      refine Rg_op rfl (op_move (v := (Value.tuple [(Value.int .i64 compare_2.1), (Value.int .i64 compare_2.2)].toArray)) rfl ?_)
      refine Rg_op rfl (op_extract (v := (Value.int .i64 compare_2.1)) rfl rfl ?_)
      refine Rg_op rfl (op_extract (v := (Value.int .i64 compare_2.2)) rfl rfl ?_)
      refine Rg_op rfl (op_assign (v := (Value.int .i64 compare_2.1)) rfl ?_)
      refine Rg_op rfl (op_assign (v := (Value.int .i64 compare_2.2)) rfl ?_)
      refine Rg_nil ?_
      refine Wp_seq ?_
      refine Wp_reset [] [(0, (Value.slice a_a a.length c_a)), (1, (Value.slice a_b b.length c_b)), (2, (Value.slice a_c c.length c_c)), (7, (Value.int .i64 compare_1.1)), (8, (Value.int .i64 compare_1.2)), (9, (Value.int .i64 compare_2.1)), (10, (Value.int .i64 compare_2.2))] rfl ⟨rfl, rfl, rfl, rfl, rfl, rfl, rfl, trivial⟩ fun ξ54 => ?_
      refine Wp_region ?_  -- 7 law.go:169
      refine Rg_op rfl (op_move (v := (Value.slice a_a a.length c_a)) rfl ?_)
      refine Rg_op rfl (op_move (v := (Value.slice a_c c.length c_c)) rfl ?_)
      replace hm := bd hm; obtain ⟨compare_3, hv55, hm⟩ := hm
      refine Rg_op rfl (op_call Try.call17 (c17_vector_Compare (a := a) (b := c) hs46.ltw f_a f_c hv55) rfl ?_)
      rintro v56 w57 ⟨hx58, h59⟩
      have hs60 := hs46.call hx58
      have p61 := Step.ext (O := ks [] O) hx58
      clear hx58
      replace f_a := f_a.step p61
      replace f_b := f_b.step p61
      replace f_c := f_c.step p61
      clear p61 hs46
      obtain ⟨v62, v63, rfl, h64, h65⟩ := h59
      obtain ⟨rfl, r_y66⟩ := h64
      obtain ⟨rfl, r_y67⟩ := h65
      refine Rg_op rfl (op_move (v := (Value.tuple [(Value.int .i64 compare_3.1), (Value.int .i64 compare_3.2)].toArray)) rfl ?_)
      refine Rg_op rfl (op_extract (v := (Value.int .i64 compare_3.1)) rfl rfl ?_)
      refine Rg_op rfl (op_extract (v := (Value.int .i64 compare_3.2)) rfl rfl ?_)
      refine Rg_op rfl (op_assign (v := (Value.int .i64 compare_3.1)) rfl ?_)
      refine Rg_op rfl (op_assign (v := (Value.int .i64 compare_3.2)) rfl ?_)
      refine Rg_nil ?_
      refine Wp_seq ?_
      refine Wp_region ?_  -- 8 law.go:170
      refine Rg_op rfl (op_move (v := (Value.slice a_b b.length c_b)) rfl ?_)
      refine Rg_op rfl (op_move (v := (Value.slice a_a a.length c_a)) rfl ?_)
      replace hm := bd hm; obtain ⟨compare_4, hv68, hm⟩ := hm
      refine Rg_op rfl (op_call Try.call17 (c17_vector_Compare (a := b) (b := a) hs60.ltw f_b f_a hv68) rfl ?_)
      rintro v69 w70 ⟨hx71, h72⟩
      have hs73 := hs60.call hx71
      have p74 := Step.ext (O := ks [] O) hx71
      clear hx71
      replace f_a := f_a.step p74
      replace f_b := f_b.step p74
      replace f_c := f_c.step p74
      clear p74 hs60
      obtain ⟨v75, v76, rfl, h77, h78⟩ := h72
      obtain ⟨rfl, r_y79⟩ := h77
      obtain ⟨rfl, r_y80⟩ := h78
      refine Rg_op rfl (op_move (v := (Value.tuple [(Value.int .i64 compare_4.1), (Value.int .i64 compare_4.2)].toArray)) rfl ?_)
      refine Rg_op rfl (op_extract (v := (Value.int .i64 compare_4.1)) rfl rfl ?_)
      refine Rg_op rfl (op_extract (v := (Value.int .i64 compare_4.2)) rfl rfl ?_)
      refine Rg_op rfl (op_assign (v := (Value.int .i64 compare_4.1)) rfl ?_)
      refine Rg_op rfl (op_assign (v := (Value.int .i64 compare_4.2)) rfl ?_)
      refine Rg_nil ?_
      refine Wp_seq ?_
      refine Wp_reset [] [(0, (Value.slice a_a a.length c_a)), (1, (Value.slice a_b b.length c_b)), (2, (Value.slice a_c c.length c_c)), (7, (Value.int .i64 compare_1.1)), (8, (Value.int .i64 compare_1.2)), (9, (Value.int .i64 compare_2.1)), (10, (Value.int .i64 compare_2.2)), (11, (Value.int .i64 compare_3.1)), (12, (Value.int .i64 compare_3.2)), (13, (Value.int .i64 compare_4.1)), (14, (Value.int .i64 compare_4.2))] rfl ⟨rfl, rfl, rfl, rfl, rfl, rfl, rfl, rfl, rfl, rfl, rfl, trivial⟩ fun ξ81 => ?_
      replace hm := jn_elim hm; obtain ⟨k83, hk84, hm⟩ := hm
      refine Wp_seqJ [47, 48, 49, 50, 51, 52] (fun fr w' => ∃ (v_1 : Bool) (Ebs : Ents), Ebs = [] ∧ fr [] [(52, (Value.bool v_1))] ∧ Step (ks [] O) w70 (ks Ebs O) w' ∧ St ⟨w, [], []⟩ O w' Ebs ∧ k83 v_1 = some x) ?_ ?_
      ·
        rintro ρ90 w86 ⟨v_1, Ebs, hEbs, hfr89, hst88, hs87, hm⟩
        replace hm := jnE1 hk84 hm
        subst hEbs; rw [hfr89.eq]; clear hfr89
        replace f_a := f_a.step hst88
        replace f_b := f_b.step hst88
        replace f_c := f_c.step hst88
        clear hst88 hs73
        refine Wp_cond rfl (fun hc91 => ?_) (fun hc91 => ?_)
        ·
          replace hm := bif_t hm hc91
          refine Wp_reset [] [(8, (Value.int .i64 compare_1.2)), (10, (Value.int .i64 compare_2.2)), (14, (Value.int .i64 compare_4.2))] rfl ⟨rfl, rfl, rfl, trivial⟩ fun ξ92 => ?_
          replace hm := jn_elim hm; obtain ⟨k94, hk95, hm⟩ := hm
          refine Wp_seqJ [6, 53, 54, 55, 56, 57, 58, 59, 60, 61, 62, 63, 64, 65, 66, 67, 68, 69, 70, 71] (fun fr w' => ∃ (v_2 : Bool) (Ebs : Ents), Ebs = [] ∧ fr [] [(6, (Value.bool v_2))] ∧ Step (ks [] O) w86 (ks Ebs O) w' ∧ St ⟨w, [], []⟩ O w' Ebs ∧ k94 v_2 = some x) ?_ ?_
          ·
            rintro ρ101 w97 ⟨v_2, Ebs, hEbs, hfr100, hst99, hs98, hm⟩
            replace hm := jnE1 hk95 hm
            subst hEbs; rw [hfr100.eq]; clear hfr100
            replace f_a := f_a.step hst99
            replace f_b := f_b.step hst99
            replace f_c := f_c.step hst99
            clear hst99 hs87
            refine Wp_ret ?_
            have hz := step_all hs98
            replace f_a := f_a.step hz
            replace f_b := f_b.step hz
            replace f_c := f_c.step hz
            refine ⟨_, (show Closes [] _ _ from rfl), [(Value.bool v_2)], ⟨rfl, trivial⟩, hs98.ext, ?_⟩
            exact Vr.eq (a := vB) (x := v_2) rfl (Option.some.inj hm)
          ·
            intro K96 hK96
            have ch102 := Step.refl (ks [] O) w86
            clear f_a f_b f_c
            refine Wp_region ?_  -- 10 law.go:172
            refine Rg_op rfl (op_move (v := (Value.int .i64 compare_4.2)) rfl ?_)
            refine Rg_op rfl (op_move (v := (Value.int .i64 compare_1.2)) rfl ?_)
            refine Rg_op rfl (op_eql rfl rfl ?_)
            refine Rg_op rfl (op_move (v := (Value.bool (decide (compare_4.2 = compare_1.2)))) rfl ?_)
            refine Rg_case (fun hg103 => ?_) (fun hg103 => ?_)
            ·
              replace hm := bif_t hm hg103
              refine Rg_opg rfl rfl rfl (op_move (v := (Value.int .i64 compare_1.2)) rfl ?_)
              refine Rg_opg rfl rfl rfl (op_eql rfl rfl ?_)
              refine Rg_opg rfl rfl rfl (op_move (v := (Value.bool (decide (compare_1.2 = 0)))) rfl ?_)
              refine Rg_case (fun hg104 => ?_) (fun hg104 => ?_)
              ·
                replace hm := bif_t hm hg104
                refine Rg_opx rfl (asB_ne rfl rfl) rfl ?_
                refine Rg_opx rfl (asB_ne rfl rfl) rfl ?_
                refine Rg_opg rfl rfl rfl (op_pick_t (v := (Value.bool true)) rfl rfl ?_)
                refine Rg_op rfl (op_pick_t (v := (Value.bool true)) rfl rfl ?_)
                refine Rg_op rfl (op_move (v := (Value.bool true)) rfl ?_)
                refine Rg_opg rfl rfl rfl (op_move (v := (Value.int .i64 compare_2.2)) rfl ?_)
                refine Rg_opg rfl rfl rfl (op_eql rfl rfl ?_)
                refine Rg_opg rfl rfl rfl (op_move (v := (Value.bool (decide (compare_2.2 = 0)))) rfl ?_)
                refine Rg_case (fun hg105 => ?_) (fun hg105 => ?_)
                ·
                  replace hm := bif_t hm hg105
                  refine Rg_opx rfl (asB_ne rfl rfl) rfl ?_
                  refine Rg_opx rfl (asB_ne rfl rfl) rfl ?_
                  refine Rg_opg rfl rfl rfl (op_pick_t (v := (Value.bool true)) rfl rfl ?_)
                  refine Rg_op rfl (op_pick_t (v := (Value.bool true)) rfl rfl ?_)
                  refine Rg_op rfl (op_assign (v := (Value.bool true)) rfl ?_)
                  refine Rg_nil ?_
                  exact hK96 _ _ ⟨true, _, rfl, ⟨(by repeat (first | with_reducible exact Out.refl _ _ | refine Out.upd ?_ rfl | refine Out.updL ?_ rfl | refine Out.mix' ?_ rfl | exact Out.refl _ _)), rfl, rfl, trivial⟩, ch102, hs87, hm⟩
                ·
                  replace hm := bif_f hm hg105
                  refine Rg_opg rfl rfl rfl (op_move (v := (Value.int .i64 compare_2.2)) rfl ?_)
                  refine Rg_opg rfl rfl rfl (op_eql rfl rfl ?_)
                  refine Rg_opg rfl rfl rfl (op_pick_f (v := (Value.bool (decide (compare_2.2 = 60)))) rfl rfl ?_)
                  refine Rg_op rfl (op_pick_t (v := (Value.bool (decide (compare_2.2 = 60)))) rfl rfl ?_)
                  refine Rg_op rfl (op_assign (v := (Value.bool (decide (compare_2.2 = 60)))) rfl ?_)
                  refine Rg_nil ?_
                  exact hK96 _ _ ⟨(decide (compare_2.2 = 60)), _, rfl, ⟨(by repeat (first | with_reducible exact Out.refl _ _ | refine Out.upd ?_ rfl | refine Out.updL ?_ rfl | refine Out.mix' ?_ rfl | exact Out.refl _ _)), rfl, rfl, trivial⟩, ch102, hs87, hm⟩
              ·
                replace hm := bif_f hm hg104
                refine Rg_opg rfl rfl rfl (op_move (v := (Value.int .i64 compare_1.2)) rfl ?_)
                refine Rg_opg rfl rfl rfl (op_eql rfl rfl ?_)
                refine Rg_opg rfl rfl rfl (op_pick_f (v := (Value.bool (decide (compare_1.2 = 60)))) rfl rfl ?_)
                refine Rg_op rfl (op_pick_t (v := (Value.bool (decide (compare_1.2 = 60)))) rfl rfl ?_)
                refine Rg_op rfl (op_move (v := (Value.bool (decide (compare_1.2 = 60)))) rfl ?_)
                refine Rg_case (fun hg106 => ?_) (fun hg106 => ?_)
                ·
                  replace hm := bif_t hm hg106
                  refine Rg_opg rfl rfl rfl (op_move (v := (Value.int .i64 compare_2.2)) rfl ?_)
                  refine Rg_opg rfl rfl rfl (op_eql rfl rfl ?_)
                  refine Rg_opg rfl rfl rfl (op_move (v := (Value.bool (decide (compare_2.2 = 0)))) rfl ?_)
                  refine Rg_case (fun hg107 => ?_) (fun hg107 => ?_)
                  ·
                    replace hm := bif_t hm hg107
                    refine Rg_opx rfl (asB_ne rfl rfl) rfl ?_
                    refine Rg_opx rfl (asB_ne rfl rfl) rfl ?_
                    refine Rg_opg rfl rfl rfl (op_pick_t (v := (Value.bool true)) rfl rfl ?_)
                    refine Rg_op rfl (op_pick_t (v := (Value.bool true)) rfl rfl ?_)
                    refine Rg_op rfl (op_assign (v := (Value.bool true)) rfl ?_)
                    refine Rg_nil ?_
                    exact hK96 _ _ ⟨true, _, rfl, ⟨(by repeat (first | with_reducible exact Out.refl _ _ | refine Out.upd ?_ rfl | refine Out.updL ?_ rfl | refine Out.mix' ?_ rfl | exact Out.refl _ _)), rfl, rfl, trivial⟩, ch102, hs87, hm⟩
                  ·
                    replace hm := bif_f hm hg107
                    refine Rg_opg rfl rfl rfl (op_move (v := (Value.int .i64 compare_2.2)) rfl ?_)
                    refine Rg_opg rfl rfl rfl (op_eql rfl rfl ?_)
                    refine Rg_opg rfl rfl rfl (op_pick_f (v := (Value.bool (decide (compare_2.2 = 60)))) rfl rfl ?_)
                    refine Rg_op rfl (op_pick_t (v := (Value.bool (decide (compare_2.2 = 60)))) rfl rfl ?_)
                    refine Rg_op rfl (op_assign (v := (Value.bool (decide (compare_2.2 = 60)))) rfl ?_)
                    refine Rg_nil ?_
                    exact hK96 _ _ ⟨(decide (compare_2.2 = 60)), _, rfl, ⟨(by repeat (first | with_reducible exact Out.refl _ _ | refine Out.upd ?_ rfl | refine Out.updL ?_ rfl | refine Out.mix' ?_ rfl | exact Out.refl _ _)), rfl, rfl, trivial⟩, ch102, hs87, hm⟩
                ·
                  replace hm := bif_f hm hg106
                  refine Rg_opx rfl (asB_ne rfl rfl) rfl ?_
                  refine Rg_opx rfl (asB_ne rfl rfl) rfl ?_
                  refine Rg_opx rfl (asB_ne rfl rfl) rfl ?_
                  refine Rg_opx rfl (asB_ne rfl rfl) rfl ?_
                  refine Rg_opx rfl (asB_ne rfl rfl) rfl ?_
                  refine Rg_opx rfl (asB_ne rfl rfl) rfl ?_
                  refine Rg_op rfl (op_pick_f (v := (Value.bool false)) rfl rfl ?_)
                  refine Rg_op rfl (op_assign (v := (Value.bool false)) rfl ?_)
                  refine Rg_nil ?_
                  exact hK96 _ _ ⟨false, _, rfl, ⟨(by repeat (first | with_reducible exact Out.refl _ _ | refine Out.upd ?_ rfl | refine Out.updL ?_ rfl | refine Out.mix' ?_ rfl | exact Out.refl _ _)), rfl, rfl, trivial⟩, ch102, hs87, hm⟩
            ·
              replace hm := bif_f hm hg103
              refine Rg_opx rfl (asB_ne rfl rfl) rfl ?_
              refine Rg_opx rfl (asB_ne rfl rfl) rfl ?_
              refine Rg_opx rfl (asB_ne rfl rfl) rfl ?_
              refine Rg_opx rfl (asB_ne rfl rfl) rfl ?_
              refine Rg_opx rfl (asB_ne rfl rfl) rfl ?_
              refine Rg_opx rfl (asB_ne rfl rfl) rfl ?_
              refine Rg_op rfl (op_pick_f (v := (Value.bool false)) rfl rfl ?_)
              refine Rg_op rfl (op_move (v := (Value.bool false)) rfl ?_)
              refine Rg_opx rfl (asB_ne rfl rfl) rfl ?_
              refine Rg_opx rfl (asB_ne rfl rfl) rfl ?_
              refine Rg_opx rfl (asB_ne rfl rfl) rfl ?_
              refine Rg_opx rfl (asB_ne rfl rfl) rfl ?_
              refine Rg_opx rfl (asB_ne rfl rfl) rfl ?_
              refine Rg_opx rfl (asB_ne rfl rfl) rfl ?_
              refine Rg_op rfl (op_pick_f (v := (Value.bool false)) rfl rfl ?_)
              refine Rg_op rfl (op_assign (v := (Value.bool false)) rfl ?_)
              refine Rg_nil ?_
              exact hK96 _ _ ⟨false, _, rfl, ⟨(by repeat (first | with_reducible exact Out.refl _ _ | refine Out.upd ?_ rfl | refine Out.updL ?_ rfl | refine Out.mix' ?_ rfl | exact Out.refl _ _)), rfl, rfl, trivial⟩, ch102, hs87, hm⟩
        ·
          replace hm := bif_f hm hc91
          refine Wp_skip ?_
          refine Wp_seq ?_
          refine Wp_reset [] [(0, (Value.slice a_a a.length c_a)), (1, (Value.slice a_b b.length c_b)), (2, (Value.slice a_c c.length c_c)), (7, (Value.int .i64 compare_1.1)), (9, (Value.int .i64 compare_2.1)), (11, (Value.int .i64 compare_3.1)), (12, (Value.int .i64 compare_3.2)), (13, (Value.int .i64 compare_4.1)), (14, (Value.int .i64 compare_4.2))] rfl ⟨rfl, rfl, rfl, rfl, rfl, rfl, rfl, rfl, rfl, trivial⟩ fun ξ108 => ?_
          replace hm := jn_elim hm; obtain ⟨k110, hk111, hm⟩ := hm
          refine Wp_seqJ [72, 73, 74, 75, 76, 77, 78, 79, 80, 81, 82, 83, 84, 85, 86, 87, 88, 89, 90, 91, 92, 93, 94, 95, 96, 97, 98, 99, 100, 101, 102, 103, 104, 105, 106, 107, 108] (fun fr w' => ∃ (v_3 : Bool) (Ebs : Ents), Ebs = [] ∧ fr [] [(108, (Value.bool v_3))] ∧ Step (ks [] O) w86 (ks Ebs O) w' ∧ St ⟨w, [], []⟩ O w' Ebs ∧ k110 v_3 = some x) ?_ ?_
          ·
            rintro ρ117 w113 ⟨v_3, Ebs, hEbs, hfr116, hst115, hs114, hm⟩
            replace hm := jnE1 hk111 hm
            subst hEbs; rw [hfr116.eq]; clear hfr116
            replace f_a := f_a.step hst115
            replace f_b := f_b.step hst115
            replace f_c := f_c.step hst115
            clear hst115 hs87
            refine Wp_cond rfl (fun hc118 => ?_) (fun hc118 => ?_)
            ·
              replace hm := bif_t hm hc118
              refine Wp_seq ?_
              clear f_a f_b f_c
              refine Wp_region ?_  -- 12 law.go:175
              refine Rg_op rfl (op_assign (v := (Value.bool false)) rfl ?_)
              refine Rg_nil ?_
              refine Wp_ret ?_
              have hz := step_all hs114
              refine ⟨_, (show Closes [] _ _ from rfl), [(Value.bool false)], ⟨rfl, trivial⟩, hs114.ext, ?_⟩
              exact Vr.eq (a := vB) (x := false) rfl (Option.some.inj hm)
            ·
              replace hm := bif_f hm hc118
              refine Wp_skip ?_
              refine Wp_reset [] [(0, (Value.slice a_a a.length c_a)), (1, (Value.slice a_b b.length c_b)), (2, (Value.slice a_c c.length c_c)), (7, (Value.int .i64 compare_1.1)), (9, (Value.int .i64 compare_2.1)), (11, (Value.int .i64 compare_3.1))] rfl ⟨rfl, rfl, rfl, rfl, rfl, rfl, trivial⟩ fun ξ119 => ?_
              replace hm := jn_elim hm; obtain ⟨k121, hk122, hm⟩ := hm
              refine Wp_seqJ [6, 109, 110, 111, 112, 113, 114, 115, 116, 117, 118, 119, 120, 121, 122, 123, 124, 125, 126, 127, 128, 129, 130, 131, 132, 133, 134, 135, 136] (fun fr w' => ∃ (v_4 : Bool) (Ebs : Ents), Ebs = [] ∧ fr [] [(6, (Value.bool v_4))] ∧ Step (ks [] O) w113 (ks Ebs O) w' ∧ St ⟨w, [], []⟩ O w' Ebs ∧ k121 v_4 = some x) ?_ ?_
              ·
                rintro ρ128 w124 ⟨v_4, Ebs, hEbs, hfr127, hst126, hs125, hm⟩
                replace hm := jnE1 hk122 hm
                subst hEbs; rw [hfr127.eq]; clear hfr127
                replace f_a := f_a.step hst126
                replace f_b := f_b.step hst126
                replace f_c := f_c.step hst126
                clear hst126 hs114
                refine Wp_ret ?_
                have hz := step_all hs125
                replace f_a := f_a.step hz
                replace f_b := f_b.step hz
                replace f_c := f_c.step hz
                refine ⟨_, (show Closes [] _ _ from rfl), [(Value.bool v_4)], ⟨rfl, trivial⟩, hs125.ext, ?_⟩
                exact Vr.eq (a := vB) (x := v_4) rfl (Option.some.inj hm)
              ·
                intro K123 hK123
                have ch129 := Step.refl (ks [] O) w113
                refine Wp_region ?_  -- 13 law.go:177
                refine Rg_op rfl (op_move (v := (Value.int .i64 compare_1.1)) rfl ?_)
                refine Rg_op rfl (op_leq rfl rfl ?_)
                refine Rg_op rfl (op_move (v := (Value.bool (decide (compare_1.1 ≤ 0)))) rfl ?_)
                refine Rg_case (fun hg130 => ?_) (fun hg130 => ?_)
                ·
                  replace hm := bif_t hm hg130
                  refine Rg_opg rfl rfl rfl (op_move (v := (Value.int .i64 compare_2.1)) rfl ?_)
                  refine Rg_opg rfl rfl rfl (op_leq rfl rfl ?_)
                  refine Rg_op rfl (op_pick_t (v := (Value.bool (decide (compare_2.1 ≤ 0)))) rfl rfl ?_)
                  refine Rg_op rfl (op_move (v := (Value.bool (decide (compare_2.1 ≤ 0)))) rfl ?_)
                  refine Rg_case (fun hg131 => ?_) (fun hg131 => ?_)
                  ·
                    replace hm := bif_t hm hg131
                    refine Rg_opg rfl rfl rfl (op_move (v := (Value.int .i64 compare_3.1)) rfl ?_)
                    refine Rg_opg rfl rfl rfl (op_gtr rfl rfl ?_)
                    refine Rg_op rfl (op_pick_t (v := (Value.bool (decide (0 < compare_3.1)))) rfl rfl ?_)
                    refine Rg_op rfl (op_not rfl ?_)
                    refine Rg_op rfl (op_move (v := (Value.bool (!(decide (0 < compare_3.1))))) rfl ?_)
                    refine Rg_case (fun hg132 => ?_) (fun hg132 => ?_)
                    ·
                      replace hm := bif_t hm hg132
                      refine Rg_opg rfl rfl rfl (op_move (v := (Value.slice a_a a.length c_a)) rfl ?_)
                      refine Rg_opg rfl rfl rfl (op_move (v := (Value.slice a_b b.length c_b)) rfl ?_)
                      replace hm := bd hm; obtain ⟨below_1, hv133, hm⟩ := hm
                      refine Rg_opg rfl rfl rfl (op_call Try.call28 (c28_overflightlaw06_below (a := a) (b := b) hs114.ltw f_a f_b hv133) rfl ?_)
                      rintro v134 w135 ⟨hx136, h137⟩
                      have hs138 := hs114.call hx136
                      have p139 := Step.ext (O := ks [] O) hx136
                      clear hx136
                      replace f_a := f_a.step p139
                      replace f_b := f_b.step p139
                      replace f_c := f_c.step p139
                      replace ch129 := ch129.trans p139
                      clear p139 hs114
                      obtain rfl := h137
                      refine Rg_opg rfl rfl rfl (op_move (v := (Value.bool below_1)) rfl ?_)
                      refine Rg_case (fun hg141 => ?_) (fun hg141 => ?_)
                      ·
                        replace hm := bif_t hm hg141
                        refine Rg_opg rfl rfl rfl (op_move (v := (Value.slice a_b b.length c_b)) rfl ?_)
                        refine Rg_opg rfl rfl rfl (op_move (v := (Value.slice a_c c.length c_c)) rfl ?_)
                        replace hm := bd hm; obtain ⟨below_2, hv142, hm⟩ := hm
                        refine Rg_opg rfl rfl rfl (op_call Try.call28 (c28_overflightlaw06_below (a := b) (b := c) hs138.ltw f_b f_c hv142) rfl ?_)
                        rintro v143 w144 ⟨hx145, h146⟩
                        have hs147 := hs138.call hx145
                        have p148 := Step.ext (O := ks [] O) hx145
                        clear hx145
                        replace f_a := f_a.step p148
                        replace f_b := f_b.step p148
                        replace f_c := f_c.step p148
                        replace ch129 := ch129.trans p148
                        clear p148 hs138
                        obtain rfl := h146
                        refine Rg_opg rfl rfl rfl (op_pick_t (v := (Value.bool below_2)) rfl rfl ?_)
                        refine Rg_opg rfl rfl rfl (op_move (v := (Value.bool below_2)) rfl ?_)
                        refine Rg_case (fun hg150 => ?_) (fun hg150 => ?_)
                        ·
                          replace hm := bif_t hm hg150
                          refine Rg_opg rfl rfl rfl (op_move (v := (Value.slice a_a a.length c_a)) rfl ?_)
                          refine Rg_opg rfl rfl rfl (op_move (v := (Value.slice a_c c.length c_c)) rfl ?_)
                          replace hm := bd hm; obtain ⟨below_3, hv151, hm⟩ := hm
                          refine Rg_opg rfl rfl rfl (op_call Try.call28 (c28_overflightlaw06_below (a := a) (b := c) hs147.ltw f_a f_c hv151) rfl ?_)
                          rintro v152 w153 ⟨hx154, h155⟩
                          have hs156 := hs147.call hx154
                          have p157 := Step.ext (O := ks [] O) hx154
                          clear hx154
                          replace f_a := f_a.step p157
                          replace f_b := f_b.step p157
                          replace f_c := f_c.step p157
                          replace ch129 := ch129.trans p157
                          clear p157 hs147
                          obtain rfl := h155
                          refine Rg_opg rfl rfl rfl (op_not rfl ?_)
                          refine Rg_opg rfl rfl rfl (op_pick_t (v := (Value.bool (!below_3))) rfl rfl ?_)
                          refine Rg_opg rfl rfl rfl (op_not rfl ?_)
                          refine Rg_op rfl (op_pick_t (v := (Value.bool (!(!below_3)))) rfl rfl ?_)
                          refine Rg_op rfl (op_assign (v := (Value.bool (!(!below_3)))) rfl ?_)
                          refine Rg_nil ?_
                          exact hK123 _ _ ⟨(!(!below_3)), _, rfl, ⟨(by repeat (first | with_reducible exact Out.refl _ _ | refine Out.upd ?_ rfl | refine Out.updL ?_ rfl | refine Out.mix' ?_ rfl | exact Out.refl _ _)), rfl, rfl, trivial⟩, ch129, hs156, hm⟩
                        ·
                          replace hm := bif_f hm hg150
                          refine Rg_opx rfl (asB_ne rfl rfl) rfl ?_
                          refine Rg_opx rfl (asB_ne rfl rfl) rfl ?_
                          refine Rg_opx rfl (asB_ne rfl rfl) rfl ?_
                          refine Rg_opx rfl (asB_ne rfl rfl) rfl ?_
                          refine Rg_opg rfl rfl rfl (op_pick_f (v := (Value.bool false)) rfl rfl ?_)
                          refine Rg_opg rfl rfl rfl (op_not rfl ?_)
                          refine Rg_op rfl (op_pick_t (v := (Value.bool true)) rfl rfl ?_)
                          refine Rg_op rfl (op_assign (v := (Value.bool true)) rfl ?_)
                          refine Rg_nil ?_
                          exact hK123 _ _ ⟨true, _, rfl, ⟨(by repeat (first | with_reducible exact Out.refl _ _ | refine Out.upd ?_ rfl | refine Out.updL ?_ rfl | refine Out.mix' ?_ rfl | exact Out.refl _ _)), rfl, rfl, trivial⟩, ch129, hs147, hm⟩
                      ·
                        replace hm := bif_f hm hg141
                        refine Rg_opx rfl (asB_ne rfl rfl) rfl ?_
                        refine Rg_opx rfl (asB_ne rfl rfl) rfl ?_
                        refine Rg_opx rfl (asB_ne rfl rfl) rfl ?_
                        refine Rg_opg rfl rfl rfl (op_pick_f (v := (Value.bool false)) rfl rfl ?_)
                        refine Rg_opg rfl rfl rfl (op_move (v := (Value.bool false)) rfl ?_)
                        refine Rg_opx rfl (asB_ne rfl rfl) rfl ?_
                        refine Rg_opx rfl (asB_ne rfl rfl) rfl ?_
                        refine Rg_opx rfl (asB_ne rfl rfl) rfl ?_
                        refine Rg_opx rfl (asB_ne rfl rfl) rfl ?_
                        refine Rg_opg rfl rfl rfl (op_pick_f (v := (Value.bool false)) rfl rfl ?_)
                        refine Rg_opg rfl rfl rfl (op_not rfl ?_)
                        refine Rg_op rfl (op_pick_t (v := (Value.bool true)) rfl rfl ?_)
                        refine Rg_op rfl (op_assign (v := (Value.bool true)) rfl ?_)
                        refine Rg_nil ?_
                        exact hK123 _ _ ⟨true, _, rfl, ⟨(by repeat (first | with_reducible exact Out.refl _ _ | refine Out.upd ?_ rfl | refine Out.updL ?_ rfl | refine Out.mix' ?_ rfl | exact Out.refl _ _)), rfl, rfl, trivial⟩, ch129, hs138, hm⟩
                    ·
                      replace hm := bif_f hm hg132
                      refine Rg_opx rfl (asB_ne rfl rfl) rfl ?_
                      refine Rg_opx rfl (asB_ne rfl rfl) rfl ?_
                      refine Rg_opx rfl (asB_ne rfl rfl) rfl ?_
                      refine Rg_opx rfl (asB_ne rfl rfl) rfl ?_
                      refine Rg_opx rfl (asB_ne rfl rfl) rfl ?_
                      refine Rg_opx rfl (asB_ne rfl rfl) rfl ?_
                      refine Rg_opx rfl (asB_ne rfl rfl) rfl ?_
                      refine Rg_opx rfl (asB_ne rfl rfl) rfl ?_
                      refine Rg_opx rfl (asB_ne rfl rfl) rfl ?_
                      refine Rg_opx rfl (asB_ne rfl rfl) rfl ?_
                      refine Rg_opx rfl (asB_ne rfl rfl) rfl ?_
                      refine Rg_opx rfl (asB_ne rfl rfl) rfl ?_
                      refine Rg_opx rfl (asB_ne rfl rfl) rfl ?_
                      refine Rg_opx rfl (asB_ne rfl rfl) rfl ?_
                      refine Rg_opx rfl (asB_ne rfl rfl) rfl ?_
                      refine Rg_op rfl (op_pick_f (v := (Value.bool false)) rfl rfl ?_)
                      refine Rg_op rfl (op_assign (v := (Value.bool false)) rfl ?_)
                      refine Rg_nil ?_
                      exact hK123 _ _ ⟨false, _, rfl, ⟨(by repeat (first | with_reducible exact Out.refl _ _ | refine Out.upd ?_ rfl | refine Out.updL ?_ rfl | refine Out.mix' ?_ rfl | exact Out.refl _ _)), rfl, rfl, trivial⟩, ch129, hs114, hm⟩
                  ·
                    replace hm := bif_f hm hg131
                    refine Rg_opx rfl (asB_ne rfl rfl) rfl ?_
                    refine Rg_opx rfl (asB_ne rfl rfl) rfl ?_
                    refine Rg_op rfl (op_pick_f (v := (Value.bool false)) rfl rfl ?_)
                    refine Rg_op rfl (op_not rfl ?_)
                    refine Rg_op rfl (op_move (v := (Value.bool true)) rfl ?_)
                    refine Rg_opg rfl rfl rfl (op_move (v := (Value.slice a_a a.length c_a)) rfl ?_)
                    refine Rg_opg rfl rfl rfl (op_move (v := (Value.slice a_b b.length c_b)) rfl ?_)
                    replace hm := bd hm; obtain ⟨below_4, hv159, hm⟩ := hm
                    refine Rg_opg rfl rfl rfl (op_call Try.call28 (c28_overflightlaw06_below (a := a) (b := b) hs114.ltw f_a f_b hv159) rfl ?_)
                    rintro v160 w161 ⟨hx162, h163⟩
                    have hs164 := hs114.call hx162
                    have p165 := Step.ext (O := ks [] O) hx162
                    clear hx162
                    replace f_a := f_a.step p165
                    replace f_b := f_b.step p165
                    replace f_c := f_c.step p165
                    replace ch129 := ch129.trans p165
                    clear p165 hs114
                    obtain rfl := h163
                    refine Rg_opg rfl rfl rfl (op_move (v := (Value.bool below_4)) rfl ?_)
                    refine Rg_case (fun hg167 => ?_) (fun hg167 => ?_)
                    ·
                      replace hm := bif_t hm hg167
                      refine Rg_opg rfl rfl rfl (op_move (v := (Value.slice a_b b.length c_b)) rfl ?_)
                      refine Rg_opg rfl rfl rfl (op_move (v := (Value.slice a_c c.length c_c)) rfl ?_)
                      replace hm := bd hm; obtain ⟨below_5, hv168, hm⟩ := hm
                      refine Rg_opg rfl rfl rfl (op_call Try.call28 (c28_overflightlaw06_below (a := b) (b := c) hs164.ltw f_b f_c hv168) rfl ?_)
                      rintro v169 w170 ⟨hx171, h172⟩
                      have hs173 := hs164.call hx171
                      have p174 := Step.ext (O := ks [] O) hx171
                      clear hx171
                      replace f_a := f_a.step p174
                      replace f_b := f_b.step p174
                      replace f_c := f_c.step p174
                      replace ch129 := ch129.trans p174
                      clear p174 hs164
                      obtain rfl := h172
                      refine Rg_opg rfl rfl rfl (op_pick_t (v := (Value.bool below_5)) rfl rfl ?_)
                      refine Rg_opg rfl rfl rfl (op_move (v := (Value.bool below_5)) rfl ?_)
                      refine Rg_case (fun hg176 => ?_) (fun hg176 => ?_)
                      ·
                        replace hm := bif_t hm hg176
                        refine Rg_opg rfl rfl rfl (op_move (v := (Value.slice a_a a.length c_a)) rfl ?_)
                        refine Rg_opg rfl rfl rfl (op_move (v := (Value.slice a_c c.length c_c)) rfl ?_)
                        replace hm := bd hm; obtain ⟨below_6, hv177, hm⟩ := hm
                        refine Rg_opg rfl rfl rfl (op_call Try.call28 (c28_overflightlaw06_below (a := a) (b := c) hs173.ltw f_a f_c hv177) rfl ?_)
                        rintro v178 w179 ⟨hx180, h181⟩
                        have hs182 := hs173.call hx180
                        have p183 := Step.ext (O := ks [] O) hx180
                        clear hx180
                        replace f_a := f_a.step p183
                        replace f_b := f_b.step p183
                        replace f_c := f_c.step p183
                        replace ch129 := ch129.trans p183
                        clear p183 hs173
                        obtain rfl := h181
                        refine Rg_opg rfl rfl rfl (op_not rfl ?_)
                        refine Rg_opg rfl rfl rfl (op_pick_t (v := (Value.bool (!below_6))) rfl rfl ?_)
                        refine Rg_opg rfl rfl rfl (op_not rfl ?_)
                        refine Rg_op rfl (op_pick_t (v := (Value.bool (!(!below_6)))) rfl rfl ?_)
                        refine Rg_op rfl (op_assign (v := (Value.bool (!(!below_6)))) rfl ?_)
                        refine Rg_nil ?_
                        exact hK123 _ _ ⟨(!(!below_6)), _, rfl, ⟨(by repeat (first | with_reducible exact Out.refl _ _ | refine Out.upd ?_ rfl | refine Out.updL ?_ rfl | refine Out.mix' ?_ rfl | exact Out.refl _ _)), rfl, rfl, trivial⟩, ch129, hs182, hm⟩
                      ·
                        replace hm := bif_f hm hg176
                        refine Rg_opx rfl (asB_ne rfl rfl) rfl ?_
                        refine Rg_opx rfl (asB_ne rfl rfl) rfl ?_
                        refine Rg_opx rfl (asB_ne rfl rfl) rfl ?_
                        refine Rg_opx rfl (asB_ne rfl rfl) rfl ?_
                        refine Rg_opg rfl rfl rfl (op_pick_f (v := (Value.bool false)) rfl rfl ?_)
                        refine Rg_opg rfl rfl rfl (op_not rfl ?_)
                        refine Rg_op rfl (op_pick_t (v := (Value.bool true)) rfl rfl ?_)
                        refine Rg_op rfl (op_assign (v := (Value.bool true)) rfl ?_)
                        refine Rg_nil ?_
                        exact hK123 _ _ ⟨true, _, rfl, ⟨(by repeat (first | with_reducible exact Out.refl _ _ | refine Out.upd ?_ rfl | refine Out.updL ?_ rfl | refine Out.mix' ?_ rfl | exact Out.refl _ _)), rfl, rfl, trivial⟩, ch129, hs173, hm⟩
                    ·
                      replace hm := bif_f hm hg167
                      refine Rg_opx rfl (asB_ne rfl rfl) rfl ?_
                      refine Rg_opx rfl (asB_ne rfl rfl) rfl ?_
                      refine Rg_opx rfl (asB_ne rfl rfl) rfl ?_
                      refine Rg_opg rfl rfl rfl (op_pick_f (v := (Value.bool false)) rfl rfl ?_)
                      refine Rg_opg rfl rfl rfl (op_move (v := (Value.bool false)) rfl ?_)
                      refine Rg_opx rfl (asB_ne rfl rfl) rfl ?_
                      refine Rg_opx rfl (asB_ne rfl rfl) rfl ?_
                      refine Rg_opx rfl (asB_ne rfl rfl) rfl ?_
                      refine Rg_opx rfl (asB_ne rfl rfl) rfl ?_
                      refine Rg_opg rfl rfl rfl (op_pick_f (v := (Value.bool false)) rfl rfl ?_)
                      refine Rg_opg rfl rfl rfl (op_not rfl ?_)
                      refine Rg_op rfl (op_pick_t (v := (Value.bool true)) rfl rfl ?_)
                      refine Rg_op rfl (op_assign (v := (Value.bool true)) rfl ?_)
                      refine Rg_nil ?_
                      exact hK123 _ _ ⟨true, _, rfl, ⟨(by repeat (first | with_reducible exact Out.refl _ _ | refine Out.upd ?_ rfl | refine Out.updL ?_ rfl | refine Out.mix' ?_ rfl | exact Out.refl _ _)), rfl, rfl, trivial⟩, ch129, hs164, hm⟩
                ·
                  replace hm := bif_f hm hg130
                  refine Rg_opx rfl (asB_ne rfl rfl) rfl ?_
                  refine Rg_opx rfl (asB_ne rfl rfl) rfl ?_
                  refine Rg_op rfl (op_pick_f (v := (Value.bool false)) rfl rfl ?_)
                  refine Rg_op rfl (op_move (v := (Value.bool false)) rfl ?_)
                  refine Rg_opx rfl (asB_ne rfl rfl) rfl ?_
                  refine Rg_opx rfl (asB_ne rfl rfl) rfl ?_
                  refine Rg_op rfl (op_pick_f (v := (Value.bool false)) rfl rfl ?_)
                  refine Rg_op rfl (op_not rfl ?_)
                  refine Rg_op rfl (op_move (v := (Value.bool true)) rfl ?_)
                  refine Rg_opg rfl rfl rfl (op_move (v := (Value.slice a_a a.length c_a)) rfl ?_)
                  refine Rg_opg rfl rfl rfl (op_move (v := (Value.slice a_b b.length c_b)) rfl ?_)
                  replace hm := bd hm; obtain ⟨below_7, hv185, hm⟩ := hm
                  refine Rg_opg rfl rfl rfl (op_call Try.call28 (c28_overflightlaw06_below (a := a) (b := b) hs114.ltw f_a f_b hv185) rfl ?_)
                  rintro v186 w187 ⟨hx188, h189⟩
                  have hs190 := hs114.call hx188
                  have p191 := Step.ext (O := ks [] O) hx188
                  clear hx188
                  replace f_a := f_a.step p191
                  replace f_b := f_b.step p191
                  replace f_c := f_c.step p191
                  replace ch129 := ch129.trans p191
                  clear p191 hs114
                  obtain rfl := h189
                  refine Rg_opg rfl rfl rfl (op_move (v := (Value.bool below_7)) rfl ?_)
                  refine Rg_case (fun hg193 => ?_) (fun hg193 => ?_)
                  ·
                    replace hm := bif_t hm hg193
                    refine Rg_opg rfl rfl rfl (op_move (v := (Value.slice a_b b.length c_b)) rfl ?_)
                    refine Rg_opg rfl rfl rfl (op_move (v := (Value.slice a_c c.length c_c)) rfl ?_)
                    replace hm := bd hm; obtain ⟨below_8, hv194, hm⟩ := hm
                    refine Rg_opg rfl rfl rfl (op_call Try.call28 (c28_overflightlaw06_below (a := b) (b := c) hs190.ltw f_b f_c hv194) rfl ?_)
                    rintro v195 w196 ⟨hx197, h198⟩
                    have hs199 := hs190.call hx197
                    have p200 := Step.ext (O := ks [] O) hx197
                    clear hx197
                    replace f_a := f_a.step p200
                    replace f_b := f_b.step p200
                    replace f_c := f_c.step p200
                    replace ch129 := ch129.trans p200
                    clear p200 hs190
                    obtain rfl := h198
                    refine Rg_opg rfl rfl rfl (op_pick_t (v := (Value.bool below_8)) rfl rfl ?_)
                    refine Rg_opg rfl rfl rfl (op_move (v := (Value.bool below_8)) rfl ?_)
                    refine Rg_case (fun hg202 => ?_) (fun hg202 => ?_)
                    ·
                      replace hm := bif_t hm hg202
                      refine Rg_opg rfl rfl rfl (op_move (v := (Value.slice a_a a.length c_a)) rfl ?_)
                      refine Rg_opg rfl rfl rfl (op_move (v := (Value.slice a_c c.length c_c)) rfl ?_)
                      replace hm := bd hm; obtain ⟨below_9, hv203, hm⟩ := hm
                      refine Rg_opg rfl rfl rfl (op_call Try.call28 (c28_overflightlaw06_below (a := a) (b := c) hs199.ltw f_a f_c hv203) rfl ?_)
                      rintro v204 w205 ⟨hx206, h207⟩
                      have hs208 := hs199.call hx206
                      have p209 := Step.ext (O := ks [] O) hx206
                      clear hx206
                      replace f_a := f_a.step p209
                      replace f_b := f_b.step p209
                      replace f_c := f_c.step p209
                      replace ch129 := ch129.trans p209
                      clear p209 hs199
                      obtain rfl := h207
                      refine Rg_opg rfl rfl rfl (op_not rfl ?_)
                      refine Rg_opg rfl rfl rfl (op_pick_t (v := (Value.bool (!below_9))) rfl rfl ?_)
                      refine Rg_opg rfl rfl rfl (op_not rfl ?_)
                      refine Rg_op rfl (op_pick_t (v := (Value.bool (!(!below_9)))) rfl rfl ?_)
                      refine Rg_op rfl (op_assign (v := (Value.bool (!(!below_9)))) rfl ?_)
                      refine Rg_nil ?_
                      exact hK123 _ _ ⟨(!(!below_9)), _, rfl, ⟨(by repeat (first | with_reducible exact Out.refl _ _ | refine Out.upd ?_ rfl | refine Out.updL ?_ rfl | refine Out.mix' ?_ rfl | exact Out.refl _ _)), rfl, rfl, trivial⟩, ch129, hs208, hm⟩
                    ·
                      replace hm := bif_f hm hg202
                      refine Rg_opx rfl (asB_ne rfl rfl) rfl ?_
                      refine Rg_opx rfl (asB_ne rfl rfl) rfl ?_
                      refine Rg_opx rfl (asB_ne rfl rfl) rfl ?_
                      refine Rg_opx rfl (asB_ne rfl rfl) rfl ?_
                      refine Rg_opg rfl rfl rfl (op_pick_f (v := (Value.bool false)) rfl rfl ?_)
                      refine Rg_opg rfl rfl rfl (op_not rfl ?_)
                      refine Rg_op rfl (op_pick_t (v := (Value.bool true)) rfl rfl ?_)
                      refine Rg_op rfl (op_assign (v := (Value.bool true)) rfl ?_)
                      refine Rg_nil ?_
                      exact hK123 _ _ ⟨true, _, rfl, ⟨(by repeat (first | with_reducible exact Out.refl _ _ | refine Out.upd ?_ rfl | refine Out.updL ?_ rfl | refine Out.mix' ?_ rfl | exact Out.refl _ _)), rfl, rfl, trivial⟩, ch129, hs199, hm⟩
                  ·
                    replace hm := bif_f hm hg193
                    refine Rg_opx rfl (asB_ne rfl rfl) rfl ?_
                    refine Rg_opx rfl (asB_ne rfl rfl) rfl ?_
                    refine Rg_opx rfl (asB_ne rfl rfl) rfl ?_
                    refine Rg_opg rfl rfl rfl (op_pick_f (v := (Value.bool false)) rfl rfl ?_)
                    refine Rg_opg rfl rfl rfl (op_move (v := (Value.bool false)) rfl ?_)
                    refine Rg_opx rfl (asB_ne rfl rfl) rfl ?_
                    refine Rg_opx rfl (asB_ne rfl rfl) rfl ?_
                    refine Rg_opx rfl (asB_ne rfl rfl) rfl ?_
                    refine Rg_opx rfl (asB_ne rfl rfl) rfl ?_
                    refine Rg_opg rfl rfl rfl (op_pick_f (v := (Value.bool false)) rfl rfl ?_)
                    refine Rg_opg rfl rfl rfl (op_not rfl ?_)
                    refine Rg_op rfl (op_pick_t (v := (Value.bool true)) rfl rfl ?_)
                    refine Rg_op rfl (op_assign (v := (Value.bool true)) rfl ?_)
                    refine Rg_nil ?_
                    exact hK123 _ _ ⟨true, _, rfl, ⟨(by repeat (first | with_reducible exact Out.refl _ _ | refine Out.upd ?_ rfl | refine Out.updL ?_ rfl | refine Out.mix' ?_ rfl | exact Out.refl _ _)), rfl, rfl, trivial⟩, ch129, hs190, hm⟩
          ·
            intro K112 hK112
            have ch211 := Step.refl (ks [] O) w86
            refine Wp_region ?_  -- 11 law.go:174
            refine Rg_op rfl (op_move (v := (Value.int .i64 compare_3.2)) rfl ?_)
            refine Rg_op rfl (op_neq rfl rfl ?_)
            refine Rg_op rfl (op_move (v := (Value.bool (decide (compare_3.2 ≠ 0)))) rfl ?_)
            refine Rg_case (fun hg212 => ?_) (fun hg212 => ?_)
            ·
              replace hm := bif_t hm hg212
              refine Rg_opx rfl (asB_ne rfl rfl) rfl ?_
              refine Rg_opx rfl (asB_ne rfl rfl) rfl ?_
              refine Rg_op rfl (op_pick_t (v := (Value.bool true)) rfl rfl ?_)
              refine Rg_op rfl (op_move (v := (Value.bool true)) rfl ?_)
              refine Rg_opx rfl (asB_ne rfl rfl) rfl ?_
              refine Rg_opx rfl (asB_ne rfl rfl) rfl ?_
              refine Rg_op rfl (op_pick_t (v := (Value.bool true)) rfl rfl ?_)
              refine Rg_op rfl (op_move (v := (Value.bool true)) rfl ?_)
              refine Rg_opx rfl (asB_ne rfl rfl) rfl ?_
              refine Rg_opx rfl (asB_ne rfl rfl) rfl ?_
              refine Rg_op rfl (op_pick_t (v := (Value.bool true)) rfl rfl ?_)
              refine Rg_op rfl (op_move (v := (Value.bool true)) rfl ?_)
              refine Rg_opx rfl (asB_ne rfl rfl) rfl ?_
              refine Rg_opx rfl (asB_ne rfl rfl) rfl ?_
              refine Rg_opx rfl (asB_ne rfl rfl) rfl ?_
              refine Rg_opx rfl (asB_ne rfl rfl) rfl ?_
              refine Rg_op rfl (op_pick_t (v := (Value.bool true)) rfl rfl ?_)
              refine Rg_op rfl (op_move (v := (Value.bool true)) rfl ?_)
              refine Rg_opx rfl (asB_ne rfl rfl) rfl ?_
              refine Rg_opx rfl (asB_ne rfl rfl) rfl ?_
              refine Rg_opx rfl (asB_ne rfl rfl) rfl ?_
              refine Rg_opx rfl (asB_ne rfl rfl) rfl ?_
              refine Rg_opx rfl (asB_ne rfl rfl) rfl ?_
              refine Rg_opx rfl (asB_ne rfl rfl) rfl ?_
              refine Rg_op rfl (op_pick_t (v := (Value.bool true)) rfl rfl ?_)
              refine Rg_op rfl (op_move (v := (Value.bool true)) rfl ?_)
              refine Rg_opx rfl (asB_ne rfl rfl) rfl ?_
              refine Rg_opx rfl (asB_ne rfl rfl) rfl ?_
              refine Rg_opx rfl (asB_ne rfl rfl) rfl ?_
              refine Rg_opx rfl (asB_ne rfl rfl) rfl ?_
              refine Rg_opx rfl (asB_ne rfl rfl) rfl ?_
              refine Rg_opx rfl (asB_ne rfl rfl) rfl ?_
              refine Rg_opx rfl (asB_ne rfl rfl) rfl ?_
              refine Rg_op rfl (op_pick_t (v := (Value.bool true)) rfl rfl ?_)
              refine Rg_nil ?_
              exact hK112 _ _ ⟨true, _, rfl, ⟨(by repeat (first | with_reducible exact Out.refl _ _ | refine Out.upd ?_ rfl | refine Out.updL ?_ rfl | refine Out.mix' ?_ rfl | exact Out.refl _ _)), rfl, rfl, trivial⟩, ch211, hs87, hm⟩
            ·
              replace hm := bif_f hm hg212
              refine Rg_opg rfl rfl rfl (op_move (v := (Value.int .i64 compare_4.2)) rfl ?_)
              refine Rg_opg rfl rfl rfl (op_neq rfl rfl ?_)
              refine Rg_op rfl (op_pick_f (v := (Value.bool (decide (compare_4.2 ≠ 0)))) rfl rfl ?_)
              refine Rg_op rfl (op_move (v := (Value.bool (decide (compare_4.2 ≠ 0)))) rfl ?_)
              refine Rg_case (fun hg213 => ?_) (fun hg213 => ?_)
              ·
                replace hm := bif_t hm hg213
                refine Rg_opx rfl (asB_ne rfl rfl) rfl ?_
                refine Rg_opx rfl (asB_ne rfl rfl) rfl ?_
                refine Rg_op rfl (op_pick_t (v := (Value.bool true)) rfl rfl ?_)
                refine Rg_op rfl (op_move (v := (Value.bool true)) rfl ?_)
                refine Rg_opx rfl (asB_ne rfl rfl) rfl ?_
                refine Rg_opx rfl (asB_ne rfl rfl) rfl ?_
                refine Rg_op rfl (op_pick_t (v := (Value.bool true)) rfl rfl ?_)
                refine Rg_op rfl (op_move (v := (Value.bool true)) rfl ?_)
                refine Rg_opx rfl (asB_ne rfl rfl) rfl ?_
                refine Rg_opx rfl (asB_ne rfl rfl) rfl ?_
                refine Rg_opx rfl (asB_ne rfl rfl) rfl ?_
                refine Rg_opx rfl (asB_ne rfl rfl) rfl ?_
                refine Rg_op rfl (op_pick_t (v := (Value.bool true)) rfl rfl ?_)
                refine Rg_op rfl (op_move (v := (Value.bool true)) rfl ?_)
                refine Rg_opx rfl (asB_ne rfl rfl) rfl ?_
                refine Rg_opx rfl (asB_ne rfl rfl) rfl ?_
                refine Rg_opx rfl (asB_ne rfl rfl) rfl ?_
                refine Rg_opx rfl (asB_ne rfl rfl) rfl ?_
                refine Rg_opx rfl (asB_ne rfl rfl) rfl ?_
                refine Rg_opx rfl (asB_ne rfl rfl) rfl ?_
                refine Rg_op rfl (op_pick_t (v := (Value.bool true)) rfl rfl ?_)
                refine Rg_op rfl (op_move (v := (Value.bool true)) rfl ?_)
                refine Rg_opx rfl (asB_ne rfl rfl) rfl ?_
                refine Rg_opx rfl (asB_ne rfl rfl) rfl ?_
                refine Rg_opx rfl (asB_ne rfl rfl) rfl ?_
                refine Rg_opx rfl (asB_ne rfl rfl) rfl ?_
                refine Rg_opx rfl (asB_ne rfl rfl) rfl ?_
                refine Rg_opx rfl (asB_ne rfl rfl) rfl ?_
                refine Rg_opx rfl (asB_ne rfl rfl) rfl ?_
                refine Rg_op rfl (op_pick_t (v := (Value.bool true)) rfl rfl ?_)
                refine Rg_nil ?_
                exact hK112 _ _ ⟨true, _, rfl, ⟨(by repeat (first | with_reducible exact Out.refl _ _ | refine Out.upd ?_ rfl | refine Out.updL ?_ rfl | refine Out.mix' ?_ rfl | exact Out.refl _ _)), rfl, rfl, trivial⟩, ch211, hs87, hm⟩
              ·
                replace hm := bif_f hm hg213
                refine Rg_opg rfl rfl rfl (op_move (v := (Value.int .i64 compare_1.1)) rfl ?_)
                refine Rg_opg rfl rfl rfl (op_lss rfl rfl ?_)
                refine Rg_op rfl (op_pick_f (v := (Value.bool (decide (compare_1.1 < (-1))))) rfl rfl ?_)
                refine Rg_op rfl (op_move (v := (Value.bool (decide (compare_1.1 < (-1))))) rfl ?_)
                refine Rg_case (fun hg214 => ?_) (fun hg214 => ?_)
                ·
                  replace hm := bif_t hm hg214
                  refine Rg_opx rfl (asB_ne rfl rfl) rfl ?_
                  refine Rg_opx rfl (asB_ne rfl rfl) rfl ?_
                  refine Rg_op rfl (op_pick_t (v := (Value.bool true)) rfl rfl ?_)
                  refine Rg_op rfl (op_move (v := (Value.bool true)) rfl ?_)
                  refine Rg_opx rfl (asB_ne rfl rfl) rfl ?_
                  refine Rg_opx rfl (asB_ne rfl rfl) rfl ?_
                  refine Rg_opx rfl (asB_ne rfl rfl) rfl ?_
                  refine Rg_opx rfl (asB_ne rfl rfl) rfl ?_
                  refine Rg_op rfl (op_pick_t (v := (Value.bool true)) rfl rfl ?_)
                  refine Rg_op rfl (op_move (v := (Value.bool true)) rfl ?_)
                  refine Rg_opx rfl (asB_ne rfl rfl) rfl ?_
                  refine Rg_opx rfl (asB_ne rfl rfl) rfl ?_
                  refine Rg_opx rfl (asB_ne rfl rfl) rfl ?_
                  refine Rg_opx rfl (asB_ne rfl rfl) rfl ?_
                  refine Rg_opx rfl (asB_ne rfl rfl) rfl ?_
                  refine Rg_opx rfl (asB_ne rfl rfl) rfl ?_
                  refine Rg_op rfl (op_pick_t (v := (Value.bool true)) rfl rfl ?_)
                  refine Rg_op rfl (op_move (v := (Value.bool true)) rfl ?_)
                  refine Rg_opx rfl (asB_ne rfl rfl) rfl ?_
                  refine Rg_opx rfl (asB_ne rfl rfl) rfl ?_
                  refine Rg_opx rfl (asB_ne rfl rfl) rfl ?_
                  refine Rg_opx rfl (asB_ne rfl rfl) rfl ?_
                  refine Rg_opx rfl (asB_ne rfl rfl) rfl ?_
                  refine Rg_opx rfl (asB_ne rfl rfl) rfl ?_
                  refine Rg_opx rfl (asB_ne rfl rfl) rfl ?_
                  refine Rg_op rfl (op_pick_t (v := (Value.bool true)) rfl rfl ?_)
                  refine Rg_nil ?_
                  exact hK112 _ _ ⟨true, _, rfl, ⟨(by repeat (first | with_reducible exact Out.refl _ _ | refine Out.upd ?_ rfl | refine Out.updL ?_ rfl | refine Out.mix' ?_ rfl | exact Out.refl _ _)), rfl, rfl, trivial⟩, ch211, hs87, hm⟩
                ·
                  replace hm := bif_f hm hg214
                  refine Rg_opg rfl rfl rfl (op_move (v := (Value.int .i64 compare_1.1)) rfl ?_)
                  refine Rg_opg rfl rfl rfl (op_gtr rfl rfl ?_)
                  refine Rg_op rfl (op_pick_f (v := (Value.bool (decide (1 < compare_1.1)))) rfl rfl ?_)
                  refine Rg_op rfl (op_move (v := (Value.bool (decide (1 < compare_1.1)))) rfl ?_)
                  refine Rg_case (fun hg215 => ?_) (fun hg215 => ?_)
                  ·
                    replace hm := bif_t hm hg215
                    refine Rg_opx rfl (asB_ne rfl rfl) rfl ?_
                    refine Rg_opx rfl (asB_ne rfl rfl) rfl ?_
                    refine Rg_opx rfl (asB_ne rfl rfl) rfl ?_
                    refine Rg_opx rfl (asB_ne rfl rfl) rfl ?_
                    refine Rg_op rfl (op_pick_t (v := (Value.bool true)) rfl rfl ?_)
                    refine Rg_op rfl (op_move (v := (Value.bool true)) rfl ?_)
                    refine Rg_opx rfl (asB_ne rfl rfl) rfl ?_
                    refine Rg_opx rfl (asB_ne rfl rfl) rfl ?_
                    refine Rg_opx rfl (asB_ne rfl rfl) rfl ?_
                    refine Rg_opx rfl (asB_ne rfl rfl) rfl ?_
                    refine Rg_opx rfl (asB_ne rfl rfl) rfl ?_
                    refine Rg_opx rfl (asB_ne rfl rfl) rfl ?_
                    refine Rg_op rfl (op_pick_t (v := (Value.bool true)) rfl rfl ?_)
                    refine Rg_op rfl (op_move (v := (Value.bool true)) rfl ?_)
                    refine Rg_opx rfl (asB_ne rfl rfl) rfl ?_
                    refine Rg_opx rfl (asB_ne rfl rfl) rfl ?_
                    refine Rg_opx rfl (asB_ne rfl rfl) rfl ?_
                    refine Rg_opx rfl (asB_ne rfl rfl) rfl ?_
                    refine Rg_opx rfl (asB_ne rfl rfl) rfl ?_
                    refine Rg_opx rfl (asB_ne rfl rfl) rfl ?_
                    refine Rg_opx rfl (asB_ne rfl rfl) rfl ?_
                    refine Rg_op rfl (op_pick_t (v := (Value.bool true)) rfl rfl ?_)
                    refine Rg_nil ?_
                    exact hK112 _ _ ⟨true, _, rfl, ⟨(by repeat (first | with_reducible exact Out.refl _ _ | refine Out.upd ?_ rfl | refine Out.updL ?_ rfl | refine Out.mix' ?_ rfl | exact Out.refl _ _)), rfl, rfl, trivial⟩, ch211, hs87, hm⟩
                  ·
                    replace hm := bif_f hm hg215
                    refine Rg_opg rfl rfl rfl (op_move (v := (Value.int .i64 compare_1.1)) rfl ?_)
                    refine Rg_opg rfl rfl rfl (op_move (v := (Value.int .i64 compare_4.1)) rfl ?_)
                    refine Rg_opg rfl rfl rfl (op_neg rfl ?_)
                    refine Rg_opg rfl rfl rfl (op_neq rfl rfl ?_)
                    refine Rg_op rfl (op_pick_f (v := (Value.bool (decide (compare_1.1 ≠ (IntKind.wrap .i64 (0 - compare_4.1)))))) rfl rfl ?_)
                    refine Rg_op rfl (op_move (v := (Value.bool (decide (compare_1.1 ≠ (IntKind.wrap .i64 (0 - compare_4.1)))))) rfl ?_)
                    refine Rg_case (fun hg216 => ?_) (fun hg216 => ?_)
                    ·
                      replace hm := bif_t hm hg216
                      refine Rg_opx rfl (asB_ne rfl rfl) rfl ?_
                      refine Rg_opx rfl (asB_ne rfl rfl) rfl ?_
                      refine Rg_opx rfl (asB_ne rfl rfl) rfl ?_
                      refine Rg_opx rfl (asB_ne rfl rfl) rfl ?_
                      refine Rg_opx rfl (asB_ne rfl rfl) rfl ?_
                      refine Rg_opx rfl (asB_ne rfl rfl) rfl ?_
                      refine Rg_op rfl (op_pick_t (v := (Value.bool true)) rfl rfl ?_)
                      refine Rg_op rfl (op_move (v := (Value.bool true)) rfl ?_)
                      refine Rg_opx rfl (asB_ne rfl rfl) rfl ?_
                      refine Rg_opx rfl (asB_ne rfl rfl) rfl ?_
                      refine Rg_opx rfl (asB_ne rfl rfl) rfl ?_
                      refine Rg_opx rfl (asB_ne rfl rfl) rfl ?_
                      refine Rg_opx rfl (asB_ne rfl rfl) rfl ?_
                      refine Rg_opx rfl (asB_ne rfl rfl) rfl ?_
                      refine Rg_opx rfl (asB_ne rfl rfl) rfl ?_
                      refine Rg_op rfl (op_pick_t (v := (Value.bool true)) rfl rfl ?_)
                      refine Rg_nil ?_
                      exact hK112 _ _ ⟨true, _, rfl, ⟨(by repeat (first | with_reducible exact Out.refl _ _ | refine Out.upd ?_ rfl | refine Out.updL ?_ rfl | refine Out.mix' ?_ rfl | exact Out.refl _ _)), rfl, rfl, trivial⟩, ch211, hs87, hm⟩
                    ·
                      replace hm := bif_f hm hg216
                      refine Rg_opg rfl rfl rfl (op_move (v := (Value.int .i64 compare_1.1)) rfl ?_)
                      refine Rg_opg rfl rfl rfl (op_eql rfl rfl ?_)
                      refine Rg_opg rfl rfl rfl (op_move (v := (Value.slice a_a a.length c_a)) rfl ?_)
                      refine Rg_opg rfl rfl rfl (op_move (v := (Value.slice a_b b.length c_b)) rfl ?_)
                      replace hm := bd hm; obtain ⟨same_1, hv217, hm⟩ := hm
                      refine Rg_opg rfl rfl rfl (op_call Try.call19 (c19_overflightref06_Same (a := a) (b := b) hs87.ltw f_a f_b hv217) rfl ?_)
                      rintro v218 w219 ⟨hx220, h221⟩
                      have hs222 := hs87.call hx220
                      have p223 := Step.ext (O := ks [] O) hx220
                      clear hx220
                      replace f_a := f_a.step p223
                      replace f_b := f_b.step p223
                      replace f_c := f_c.step p223
                      replace ch211 := ch211.trans p223
                      clear p223 hs87
                      obtain rfl := h221
                      refine Rg_opg rfl rfl rfl (op_neqb Try.underlying4 rfl rfl ?_)
                      refine Rg_op rfl (op_pick_f (v := (Value.bool (!((decide (compare_1.1 = 0)) == same_1)))) rfl rfl ?_)
                      refine Rg_op rfl (op_move (v := (Value.bool (!((decide (compare_1.1 = 0)) == same_1)))) rfl ?_)
                      refine Rg_case (fun hg225 => ?_) (fun hg225 => ?_)
                      ·
                        replace hm := bif_t hm hg225
                        refine Rg_opx rfl (asB_ne rfl rfl) rfl ?_
                        refine Rg_opx rfl (asB_ne rfl rfl) rfl ?_
                        refine Rg_opx rfl (asB_ne rfl rfl) rfl ?_
                        refine Rg_opx rfl (asB_ne rfl rfl) rfl ?_
                        refine Rg_opx rfl (asB_ne rfl rfl) rfl ?_
                        refine Rg_opx rfl (asB_ne rfl rfl) rfl ?_
                        refine Rg_opx rfl (asB_ne rfl rfl) rfl ?_
                        refine Rg_op rfl (op_pick_t (v := (Value.bool true)) rfl rfl ?_)
                        refine Rg_nil ?_
                        exact hK112 _ _ ⟨true, _, rfl, ⟨(by repeat (first | with_reducible exact Out.refl _ _ | refine Out.upd ?_ rfl | refine Out.updL ?_ rfl | refine Out.mix' ?_ rfl | exact Out.refl _ _)), rfl, rfl, trivial⟩, ch211, hs222, hm⟩
                      ·
                        replace hm := bif_f hm hg225
                        refine Rg_opg rfl rfl rfl (op_move (v := (Value.slice a_a a.length c_a)) rfl ?_)
                        refine Rg_opg rfl rfl rfl (op_move (v := (Value.slice a_b b.length c_b)) rfl ?_)
                        replace hm := bd hm; obtain ⟨below_10, hv226, hm⟩ := hm
                        refine Rg_opg rfl rfl rfl (op_call Try.call28 (c28_overflightlaw06_below (a := a) (b := b) hs222.ltw f_a f_b hv226) rfl ?_)
                        rintro v227 w228 ⟨hx229, h230⟩
                        have hs231 := hs222.call hx229
                        have p232 := Step.ext (O := ks [] O) hx229
                        clear hx229
                        replace f_a := f_a.step p232
                        replace f_b := f_b.step p232
                        replace f_c := f_c.step p232
                        replace ch211 := ch211.trans p232
                        clear p232 hs222
                        obtain rfl := h230
                        refine Rg_opg rfl rfl rfl (op_move (v := (Value.bool below_10)) rfl ?_)
                        refine Rg_case (fun hg234 => ?_) (fun hg234 => ?_)
                        ·
                          replace hm := bif_t hm hg234
                          refine Rg_opg rfl rfl rfl (op_move (v := (Value.int .i64 compare_1.1)) rfl ?_)
                          refine Rg_opg rfl rfl rfl (op_gtr rfl rfl ?_)
                          refine Rg_opg rfl rfl rfl (op_pick_t (v := (Value.bool (decide (0 < compare_1.1)))) rfl rfl ?_)
                          refine Rg_op rfl (op_pick_f (v := (Value.bool (decide (0 < compare_1.1)))) rfl rfl ?_)
                          refine Rg_nil ?_
                          exact hK112 _ _ ⟨(decide (0 < compare_1.1)), _, rfl, ⟨(by repeat (first | with_reducible exact Out.refl _ _ | refine Out.upd ?_ rfl | refine Out.updL ?_ rfl | refine Out.mix' ?_ rfl | exact Out.refl _ _)), rfl, rfl, trivial⟩, ch211, hs231, hm⟩
                        ·
                          replace hm := bif_f hm hg234
                          refine Rg_opx rfl (asB_ne rfl rfl) rfl ?_
                          refine Rg_opx rfl (asB_ne rfl rfl) rfl ?_
                          refine Rg_opg rfl rfl rfl (op_pick_f (v := (Value.bool false)) rfl rfl ?_)
                          refine Rg_op rfl (op_pick_f (v := (Value.bool false)) rfl rfl ?_)
                          refine Rg_nil ?_
                          exact hK112 _ _ ⟨false, _, rfl, ⟨(by repeat (first | with_reducible exact Out.refl _ _ | refine Out.upd ?_ rfl | refine Out.updL ?_ rfl | refine Out.mix' ?_ rfl | exact Out.refl _ _)), rfl, rfl, trivial⟩, ch211, hs231, hm⟩
      ·
        intro K85 hK85
        have ch235 := Step.refl (ks [] O) w70
        refine Wp_region ?_  -- 9 law.go:171
        refine Rg_op rfl (op_move (v := (Value.int .i64 compare_1.2)) rfl ?_)
        refine Rg_op rfl (op_neq rfl rfl ?_)
        refine Rg_op rfl (op_move (v := (Value.bool (decide (compare_1.2 ≠ 0)))) rfl ?_)
        refine Rg_case (fun hg236 => ?_) (fun hg236 => ?_)
        ·
          replace hm := bif_t hm hg236
          refine Rg_opx rfl (asB_ne rfl rfl) rfl ?_
          refine Rg_opx rfl (asB_ne rfl rfl) rfl ?_
          refine Rg_op rfl (op_pick_t (v := (Value.bool true)) rfl rfl ?_)
          refine Rg_nil ?_
          exact hK85 _ _ ⟨true, _, rfl, ⟨(by repeat (first | with_reducible exact Out.refl _ _ | refine Out.upd ?_ rfl | refine Out.updL ?_ rfl | refine Out.mix' ?_ rfl | exact Out.refl _ _)), rfl, rfl, trivial⟩, ch235, hs73, hm⟩
        ·
          replace hm := bif_f hm hg236
          refine Rg_opg rfl rfl rfl (op_move (v := (Value.int .i64 compare_2.2)) rfl ?_)
          refine Rg_opg rfl rfl rfl (op_neq rfl rfl ?_)
          refine Rg_op rfl (op_pick_f (v := (Value.bool (decide (compare_2.2 ≠ 0)))) rfl rfl ?_)
          refine Rg_nil ?_
          exact hK85 _ _ ⟨(decide (compare_2.2 ≠ 0)), _, rfl, ⟨(by repeat (first | with_reducible exact Out.refl _ _ | refine Out.upd ?_ rfl | refine Out.updL ?_ rfl | refine Out.mix' ?_ rfl | exact Out.refl _ _)), rfl, rfl, trivial⟩, ch235, hs73, hm⟩

end Go.Fx


/- What the models of functions compute: loops over lists, checks, meetings. No program in sight. -/
set_option linter.unusedSimpArgs false
set_option linter.unusedVariables false
namespace Go.Fx
open Go Go.RowKit

section
variable {R α σ : Type}
@[simp] theorem jn_eq {κ : Type _} (k : κ) (f : κ → Option R) : jn k f = f k := rfl
theorem ck_eq {c : Prop} [Decidable c] {m : Option R} (h : c) : ck c m = m := if_pos h
@[simp] theorem ck_True {m : Option R} : ck True m = m := if_pos trivial
theorem wrapN {i : Nat} (h : i < 9223372036854775808) : IntKind.i64.wrap (i : Int) = (i : Int) := wrap_i64 (by omega) (by omega)
theorem wrapS {i : Nat} (h : i + 1 < 9223372036854775808) : IntKind.i64.wrap ((i : Int) + 1) = (i : Int) + 1 := wrap_i64 (by omega) (by omega)
theorem wrapA {i j : Nat} (h : i + j < 9223372036854775808) : IntKind.i64.wrap ((i : Int) + (j : Int)) = ((i + j : Nat) : Int) := (wrap_i64 (by omega) (by omega)).trans (by omega)
theorem wrapP {i : Nat} (h : i < 9223372036854775808) : IntKind.i64.wrap (((i + 1 : Nat) : Int) - 1) = (i : Int) := (wrap_i64 (by omega) (by omega)).trans (by omega)

/-- a loop that goes up an index over a list: L fuel index state -/
theorem up_list {L : Nat → Int → σ → Option R} (I : Nat → σ → Prop) (F : Nat → List α → σ → Option R) (l : List α) (hl : l.length < 9223372036854775807)
    (hE : ∀ n s, I l.length s → L (n + 1) (l.length : Nat) s = F l.length [] s)
    (hS : ∀ n (i : Nat) s x t, i < l.length → l[i]? = some x → IntKind.i64.wrap ((i : Int) + 1) = (i : Int) + 1 → I i s →
      (∀ s, I (i + 1) s → L n ((i : Int) + 1) s = F (i + 1) t s) → L (n + 1) (i : Int) s = F i (x :: t) s) :
    ∀ (fuel : Nat) s, l.length < fuel → I 0 s → L fuel 0 s = F 0 l s := by
  have main : ∀ (t : List α) (i fuel : Nat) s, l.drop i = t → i ≤ l.length → l.length - i < fuel → I i s → L fuel (i : Int) s = F i t s := by
    intro t
    induction t with
    | nil =>
      intro i fuel s hd hi hf hI
      have : i = l.length := by have := congrArg List.length hd; simp at this; omega
      subst this
      obtain ⟨n, rfl⟩ : ∃ n, fuel = n + 1 := ⟨fuel - 1, by omega⟩
      exact hE n s hI
    | cons x t ih =>
      intro i fuel s hd hi hf hI
      have hlt : i < l.length := by have := congrArg List.length hd; simp at this; omega
      obtain ⟨n, rfl⟩ : ∃ n, fuel = n + 1 := ⟨fuel - 1, by omega⟩
      have hx : l[i]? = some x := by rw [← List.head?_drop, hd]; rfl
      refine hS n i s x t hlt hx (wrapS (by omega)) hI fun s' hI' => (ih (i + 1) n s' ?_ (by omega) (by omega) hI')
      rw [← List.drop_drop, hd]; rfl
  intro fuel s hf hI
  exact main l 0 fuel s rfl (by omega) (by omega) hI

theorem getD_of {l : List α} {i : Nat} {x d : α} (h : l[i]? = some x) : l.getD i d = x := by simp [List.getD, h]

/-- a loop that goes up an index over a list, no state -/
theorem up_list0 {B : (Int → Option R) → Int → Option R} (F : List α → Option R) (l : List α) (hl : l.length < 9223372036854775807)
    (hE : ∀ sf, B sf (l.length : Nat) = F [])
    (hS : ∀ sf (i : Nat) x t, i < l.length → l[i]? = some x → IntKind.i64.wrap ((i : Int) + 1) = (i : Int) + 1 →
      sf ((i : Int) + 1) = F t → B sf (i : Int) = F (x :: t))
    {fuel : Nat} (hf : l.length < fuel) : loop1 B fuel 0 = F l := by
  refine up_list (L := fun n i (_ : Unit) => loop1 B n i) (fun _ _ => True) (fun _ t _ => F t) l hl ?_ ?_ fuel () hf trivial
  · intro n _ _; show loop1 B (n + 1) _ = _; rw [loop1_succ]; exact hE _
  · intro n i _ x t h1 h2 h3 _ ih; show loop1 B (n + 1) _ = _; rw [loop1_succ]; exact hS _ i x t h1 h2 h3 (ih () trivial)
/-- index first, then a state -/
theorem up_listA {B : (Int → σ → Option R) → Int → σ → Option R} (I : Nat → σ → Prop) (F : Nat → List α → σ → Option R) (l : List α) (hl : l.length < 9223372036854775807)
    (hE : ∀ sf s, I l.length s → B sf (l.length : Nat) s = F l.length [] s)
    (hS : ∀ sf (i : Nat) s x t, i < l.length → l[i]? = some x → IntKind.i64.wrap ((i : Int) + 1) = (i : Int) + 1 → I i s →
      (∀ s, I (i + 1) s → sf ((i : Int) + 1) s = F (i + 1) t s) → B sf (i : Int) s = F i (x :: t) s)
    {fuel : Nat} {s : σ} (hf : l.length < fuel) (hI : I 0 s) : loop2 B fuel 0 s = F 0 l s := by
  refine up_list (L := fun n i s => loop2 B n i s) I F l hl ?_ ?_ fuel s hf hI
  · intro n s h; show loop2 B (n + 1) _ _ = _; rw [loop2_succ]; exact hE _ _ h
  · intro n i s x t h1 h2 h3 h4 ih; show loop2 B (n + 1) _ _ = _; rw [loop2_succ]; exact hS _ i s x t h1 h2 h3 h4 ih
/-- a state first, then the index -/
theorem up_listB {B : (σ → Int → Option R) → σ → Int → Option R} (I : Nat → σ → Prop) (F : Nat → List α → σ → Option R) (l : List α) (hl : l.length < 9223372036854775807)
    (hE : ∀ sf s, I l.length s → B sf s (l.length : Nat) = F l.length [] s)
    (hS : ∀ sf (i : Nat) s x t, i < l.length → l[i]? = some x → IntKind.i64.wrap ((i : Int) + 1) = (i : Int) + 1 → I i s →
      (∀ s, I (i + 1) s → sf s ((i : Int) + 1) = F (i + 1) t s) → B sf s (i : Int) = F i (x :: t) s)
    {fuel : Nat} {s : σ} (hf : l.length < fuel) (hI : I 0 s) : loop2 B fuel s 0 = F 0 l s := by
  refine up_list (L := fun n i s => loop2 B n s i) I F l hl ?_ ?_ fuel s hf hI
  · intro n s h; show loop2 B (n + 1) _ _ = _; rw [loop2_succ]; exact hE _ _ h
  · intro n i s x t h1 h2 h3 h4 ih; show loop2 B (n + 1) _ _ = _; rw [loop2_succ]; exact hS _ i s x t h1 h2 h3 h4 ih

/-- the same, where the answer needs the index -/
theorem up_listI {B : (Int → Option R) → Int → Option R} (F : Nat → List α → Option R) (l : List α) (hl : l.length < 9223372036854775807)
    (hE : ∀ sf, B sf (l.length : Nat) = F l.length [])
    (hS : ∀ sf (i : Nat) x t, i < l.length → l[i]? = some x → IntKind.i64.wrap ((i : Int) + 1) = (i : Int) + 1 →
      sf ((i : Int) + 1) = F (i + 1) t → B sf (i : Int) = F i (x :: t))
    {fuel : Nat} (hf : l.length < fuel) : loop1 B fuel 0 = F 0 l := by
  refine up_list (L := fun n i (_ : Unit) => loop1 B n i) (fun _ _ => True) (fun i t _ => F i t) l hl ?_ ?_ fuel () hf trivial
  · intro n _ _; show loop1 B (n + 1) _ = _; rw [loop1_succ]; exact hE _
  · intro n i _ x t h1 h2 h3 _ ih; show loop1 B (n + 1) _ = _; rw [loop1_succ]; exact hS _ i x t h1 h2 h3 (ih () trivial)
end
end Go.Fx


/- The plain laws of chapter 06: what the functions compute. -/
set_option linter.unusedSimpArgs false
set_option linter.unusedVariables false
namespace Go.Fx
open Go Go.RowKit
theorem sane_eq : m11_overflightlaw06_sane = some true := by kernel_rfl
abbrev big : Nat := 1000000
/-- the order of lists: -1, 0 or 1 -/
def cmpL : List Int → List Int → Int
  | [], [] => 0
  | [], _ :: _ => -1
  | _ :: _, [] => 1
  | x :: s, y :: t => if x < y then -1 else if y < x then 1 else cmpL s t
theorem cmpL_vals (a b : List Int) : cmpL a b = -1 ∨ cmpL a b = 0 ∨ cmpL a b = 1 := by
  induction a generalizing b with
  | nil => cases b <;> simp [cmpL]
  | cons x s ih => cases b with
    | nil => simp [cmpL]
    | cons y t =>
      unfold cmpL
      by_cases h1 : x < y
      · simp [h1]
      · by_cases h2 : y < x
        · simp [h1, h2]
        · simp only [h1, h2, if_false]; exact ih t
theorem cmpL_anti (a b : List Int) : cmpL b a = - cmpL a b := by
  induction a generalizing b with
  | nil => cases b <;> simp [cmpL]
  | cons x s ih => cases b with
    | nil => simp [cmpL]
    | cons y t =>
      unfold cmpL
      by_cases h1 : x < y
      · have : ¬ y < x := by omega
        simp [h1, this]
      · by_cases h2 : y < x
        · simp [h1, h2]
        · simp [h1, h2, ih]
theorem cmpL_zero {a b : List Int} : cmpL a b = 0 ↔ a = b := by
  induction a generalizing b with
  | nil => cases b <;> simp [cmpL]
  | cons x s ih => cases b with
    | nil => simp [cmpL]
    | cons y t =>
      unfold cmpL
      by_cases h1 : x < y
      · simp [h1]; omega
      · by_cases h2 : y < x
        · simp [h1, h2]; omega
        · have : x = y := by omega
          simp [h1, h2, ih, this]
theorem cmpL_trans {a b c : List Int} (h1 : cmpL a b ≤ 0) (h2 : cmpL b c ≤ 0) : cmpL a c ≤ 0 := by
  induction a generalizing b c with
  | nil => cases c <;> simp [cmpL]
  | cons x s ih =>
    cases b with
    | nil => simp [cmpL] at h1
    | cons y t =>
      cases c with
      | nil => simp [cmpL] at h2
      | cons z u =>
        unfold cmpL at h1 h2 ⊢
        by_cases a1 : x < z
        · simp [a1]
        · by_cases a2 : x < y
          · have : ¬ y < z := by omega
            have : z < y := by omega
            simp_all
          · by_cases a3 : y < x
            · simp [a2, a3] at h1
            · have hxy : x = y := by omega
              subst hxy
              simp only [a1, if_false] at h2 ⊢
              by_cases a4 : z < x
              · simp [a4] at h2
              · simp only [a4, if_false, Int.lt_irrefl] at h1 h2 ⊢
                exact ih h1 h2
theorem cmpL_lt {a b c : List Int} (h1 : cmpL a b < 0) (h2 : cmpL b c < 0) : cmpL a c < 0 := by
  have h3 := cmpL_trans (a := a) (b := b) (c := c) (by omega) (by omega)
  rcases Int.lt_or_eq_of_le h3 with h | h
  · exact h
  · rw [cmpL_zero] at h; subst h
    have := cmpL_anti a b; omega
/-- below, component by component -/
def bel : List Int → List Int → Bool
  | x :: s, y :: t => decide (x ≤ y) && bel s t
  | _, _ => true
theorem bel_refl (a : List Int) : bel a a = true := by induction a <;> simp [bel, *]
theorem bel_cmp {a b : List Int} (hl : a.length = b.length) (h : bel a b = true) : cmpL a b ≤ 0 := by
  induction a generalizing b with
  | nil => cases b <;> simp [cmpL]
  | cons x s ih => cases b with
    | nil => simp at hl
    | cons y t =>
      simp only [bel, Bool.and_eq_true, decide_eq_true_eq] at h
      unfold cmpL
      by_cases h1 : x < y
      · simp [h1]
      · have : ¬ y < x := by omega
        simp only [h1, this, if_false]; exact ih (by simpa using hl) h.2
theorem bel_trans {a b c : List Int} (h1 : a.length = b.length) (h2 : b.length = c.length) (k1 : bel a b = true) (k2 : bel b c = true) : bel a c = true := by
  induction a generalizing b c with
  | nil => cases c <;> simp [bel]
  | cons x s ih => cases b with
    | nil => simp at h1
    | cons y t => cases c with
      | nil => simp at h2
      | cons z u =>
        simp only [bel, Bool.and_eq_true, decide_eq_true_eq] at k1 k2 ⊢
        exact ⟨by omega, ih (by simpa using h1) (by simpa using h2) k1.2 k2.2⟩
theorem m48_eq (x y : Int) : m48_cmp_Compare x y = some (if x < y then -1 else if y < x then 1 else 0) := by
  unfold m48_cmp_Compare m58_cmp_isNaN
  by_cases h1 : x < y
  · simp [h1]
  · by_cases h2 : y < x <;> simp [h1, h2]
theorem m34_eq (a b : List Int) (ha : a.length < 9223372036854775807) : m34_slices_Compareint_int_ a b = some (cmpL a b) := by
  unfold m34_slices_Compareint_int_
  have := up_listI (B := m34_slices_Compareint_int__B0 a b) (fun i t => some (cmpL t (b.drop i))) a ha ?_ ?_ (fuel := ((a.length : Int) - 0).toNat + 1) (by omega)
  · simpa using this
  · intro sf
    unfold m34_slices_Compareint_int__B0
    by_cases h : a.length < b.length
    · have : ∃ y t, b.drop a.length = y :: t := by
        cases hd : b.drop a.length with
        | nil => have := congrArg List.length hd; simp at this; omega
        | cons y t => exact ⟨y, t, rfl⟩
      obtain ⟨y, t, hd⟩ := this
      have h' : (a.length : Int) < (b.length : Int) := by omega
      simp [h', hd, cmpL, h]
    · have h' : ¬ (a.length : Int) < (b.length : Int) := by omega
      have hd : b.drop a.length = [] := by simp; omega
      simp [h', hd, cmpL, h]
  · intro sf i x t h1 h2 h3 ih
    obtain ⟨_, rfl⟩ := List.getElem?_eq_some_iff.1 h2
    unfold m34_slices_Compareint_int__B0
    have c1 : (i : Int) < (a.length : Int) := by omega
    have g1 : a.getD (i : Int).toNat default = a[i] := by simp [h1]
    simp only [c1, decide_true, cond_true, g1, h3]
    rw [ck_eq (by simp)]
    by_cases hb : i < b.length
    · have c2 : ¬ (b.length : Int) ≤ (i : Int) := by omega
      have g2 : b.getD (i : Int).toNat default = b[i] := by simp [hb]
      have hd : b.drop i = b[i] :: b.drop (i + 1) := List.drop_eq_getElem_cons hb
      simp only [c2, decide_false, cond_false, g2, m48_eq, Option.bind_some, hd]
      rw [ck_eq (by omega)]
      unfold cmpL
      by_cases k1 : a[i] < b[i]
      · simp [k1]
      · by_cases k2 : b[i] < a[i]
        · simp [k1, k2]
        · simp only [k1, k2, if_false, ne_eq, not_true_eq_false, decide_false, cond_false]; exact ih
    · have c2 : (b.length : Int) ≤ (i : Int) := by omega
      have hd : b.drop i = [] := by simp; omega
      simp [c2, hd, cmpL]
theorem m35_eq (a b : List Int) (h : a.length = b.length) (ha : a.length < 9223372036854775807) : m35_overflightref06_Order a b = some (cmpL a b) := by
  unfold m35_overflightref06_Order
  have := up_listI (B := m35_overflightref06_Order_B0 a b) (fun i t => some (cmpL t (b.drop i))) a ha ?_ ?_ (fuel := ((a.length : Int) - 0).toNat + 1) (by omega)
  · simpa using this
  · intro sf
    unfold m35_overflightref06_Order_B0
    have hd : b.drop a.length = [] := by simp; omega
    simp [hd, cmpL]
  · intro sf i x t h1 h2 h3 ih
    obtain ⟨_, rfl⟩ := List.getElem?_eq_some_iff.1 h2
    unfold m35_overflightref06_Order_B0
    have c1 : (i : Int) < (a.length : Int) := by omega
    have hb : i < b.length := by omega
    have g1 : a.getD (i : Int).toNat default = a[i] := by simp [h1]
    have g2 : b.getD (i : Int).toNat default = b[i] := by simp [hb]
    have hd : b.drop i = b[i] :: b.drop (i + 1) := List.drop_eq_getElem_cons hb
    simp only [c1, decide_true, cond_true, g1, g2, h3, hd]
    rw [ck_eq (by simp), ck_eq (by omega), ck_eq (by simp), ck_eq (by omega)]
    unfold cmpL
    by_cases k1 : a[i] < b[i]
    · simp [k1]
    · by_cases k2 : b[i] < a[i]
      · simp [k1, k2]
      · simp only [k1, k2, if_false, decide_false, cond_false]; exact ih
theorem m19_eq (a b : List Int) (ha : a.length < 9223372036854775807) : m19_overflightref06_Same a b = some (decide (a = b)) := by
  unfold m19_overflightref06_Same
  by_cases h : a.length = b.length
  · have h' : (a.length : Int) = (b.length : Int) := by omega
    rw [m35_eq a b h ha]; simp [h', cmpL_zero]
  · have h' : ¬ (a.length : Int) = (b.length : Int) := by omega
    have : ¬ a = b := fun e => h (by rw [e])
    simp [h', this]
theorem m17_eq (a b : List Int) (ha : a.length < 9223372036854775807) : m17_vector_Compare a b = some (if a.length = b.length then (cmpL a b, 0) else (0, 60)) := by
  unfold m17_vector_Compare
  by_cases h : a.length = b.length
  · have h' : (a.length : Int) = (b.length : Int) := by omega
    rw [m34_eq a b ha]; simp [h', h]
  · have h' : ¬ (a.length : Int) = (b.length : Int) := by omega
    simp [h', h]
theorem m30_eq (a b : List Int) (h : a.length = b.length) (ha : a.length < 9223372036854775807) : m30_vector_pairs a b = some (a.zip b) := by
  unfold m30_vector_pairs m47_vector_pairs_1
  have := up_listI (B := m47_vector_pairs_1_B0 a b) (fun i t => some (t.zip (b.drop i))) a ha ?_ ?_ (fuel := ((a.length : Int) - 0).toNat + 1) (by omega)
  · rw [List.drop_zero] at this; exact (congrArg (fun o => o.bind fun l_1 => some l_1) this).trans rfl
  · intro sf; unfold m47_vector_pairs_1_B0; simp
  · intro sf i x t h1 h2 h3 ih
    obtain ⟨_, rfl⟩ := List.getElem?_eq_some_iff.1 h2
    unfold m47_vector_pairs_1_B0
    have c1 : (i : Int) < (a.length : Int) := by omega
    have hb : i < b.length := by omega
    have g1 : a.getD (i : Int).toNat default = a[i] := by simp [h1]
    have g2 : b.getD (i : Int).toNat default = b[i] := by simp [hb]
    have hd : b.drop i = b[i] :: b.drop (i + 1) := List.drop_eq_getElem_cons hb
    simp only [c1, decide_true, cond_true, g1, g2, h3, hd]
    rw [ck_eq (by simp), ck_eq (by omega), ih, List.zip_cons_cons]
    rfl
theorem m32_eq (a b : List Int) (h : a.length = b.length) (ha : a.length < 9223372036854775807) : m32_vector_below a b = some (bel a b) := by
  unfold m32_vector_below
  rw [m30_eq a b h ha]
  simp only [Option.bind_some, jn_eq]
  clear ha
  induction a generalizing b with
  | nil => simp [rng0_nil, bel]
  | cons x s ih => cases b with
    | nil => simp at h
    | cons y t =>
      rw [List.zip_cons_cons, rng0_cons]
      unfold m32_vector_below_B0
      by_cases k : y < x
      · have : ¬ x ≤ y := by omega
        simp [k, bel, this]
      · have : x ≤ y := by omega
        simp only [k, decide_false, cond_false, bel, this, decide_true, Bool.true_and]
        exact ih t (by simpa using h)
theorem m15_eq (a b : List Int) (ha : a.length < 9223372036854775807) : m15_vector_Below a b = some (if a.length = b.length then (bel a b, 0) else (false, 60)) := by
  unfold m15_vector_Below
  by_cases h : a.length = b.length
  · have h' : (a.length : Int) = (b.length : Int) := by omega
    rw [m32_eq a b h ha]; simp [h', h]
  · have h' : ¬ (a.length : Int) = (b.length : Int) := by omega
    simp [h', h]
theorem m28_eq (a b : List Int) (ha : a.length < 9223372036854775807) : m28_overflightlaw06_below a b = some (decide (a.length = b.length) && bel a b) := by
  unfold m28_overflightlaw06_below
  rw [m15_eq a b ha]
  by_cases h : a.length = b.length
  · cases hb : bel a b <;> simp [h, hb]
  · simp [h]
theorem few_eq (l : List (List Int)) (hl : l.length < 9223372036854775807) : m20_overflightref06_Few l = some (l.all (fun a => decide (a.length ≤ 20)) && decide (l.length ≤ 30)) := by
  unfold m20_overflightref06_Few
  refine up_list0 (fun t => some (t.all (fun a => decide (a.length ≤ 20)) && decide (l.length ≤ 30))) l hl ?_ ?_ (show l.length < ((l.length : Int) - 0).toNat + 1 by omega)
  · intro sf; unfold m20_overflightref06_Few_B0
    have : ((l.length : Int) ≤ 30) = (l.length ≤ 30) := by apply propext; omega
    simp [this]
  · intro sf i x t h1 h2 h3 ih
    obtain ⟨_, rfl⟩ := List.getElem?_eq_some_iff.1 h2
    unfold m20_overflightref06_Few_B0
    have k4 : (20 < (l[i].length : Int)) = (20 < l[i].length) := by apply propext; omega
    by_cases k : 20 < l[i].length
    · have : ¬ l[i].length ≤ 20 := by omega
      simp [h1, h3, ih, ck_eq, k4, k, this]
    · have : l[i].length ≤ 20 := by omega
      simp [h1, h3, ih, ck_eq, k4, k, this]
theorem few_spec {l : List (List Int)} (h : (l.all (fun a => decide (a.length ≤ 20)) && decide (l.length ≤ 30)) = true) : (∀ a ∈ l, a.length ≤ 20) ∧ l.length ≤ 30 := by
  simp only [Bool.and_eq_true, List.all_eq_true, decide_eq_true_eq] at h; exact h
theorem m12_eq (l : List (List Int)) (hl : l.length < 9223372036854775807) : m12_overflightlaw06_short l = some (l.all (fun a => decide (a.length ≤ 20)) && decide (l.length ≤ 30)) := by
  unfold m12_overflightlaw06_short; rw [few_eq l hl]; rfl
/-- the first index from i where g holds, or -1 -/
def fidx {α} (g : α → Bool) : Nat → List α → Int
  | _, [] => -1
  | i, x :: t => bif g x then (i : Int) else fidx g (i + 1) t
theorem fidx_any {α} (g : α → Bool) (l : List α) (i : Nat) : decide (0 ≤ fidx g i l) = l.any g := by
  induction l generalizing i with
  | nil => rfl
  | cons x t ih => cases h : g x <;> simp [fidx, h, ih]
theorem m42_eq (s : List (List Int)) (f : List Int → Option Bool) (g : List Int → Bool) (hf : ∀ x ∈ s, f x = some (g x)) (hl : s.length < 9223372036854775807) : m42_slices_ContainsFuncint_int_ s (some f) = some (s.any g) := by
  have : m56_slices_IndexFuncint_int_ s (some f) = some (fidx g 0 s) := by
    unfold m56_slices_IndexFuncint_int_
    refine up_listI (fun i t => some (fidx g i t)) s hl ?_ ?_ (by omega)
    · intro sf; unfold m56_slices_IndexFuncint_int__B0; simp [fidx]
    · intro sf i x t h1 h2 h3 ih; unfold m56_slices_IndexFuncint_int__B0; obtain ⟨_, rfl⟩ := List.getElem?_eq_some_iff.1 h2
      have hfi := hf s[i] (List.getElem_mem _)
      cases h : g s[i] <;> simp [h1, h3, ih, callO, hfi, h, fidx, ck_eq]
  unfold m42_slices_ContainsFuncint_int_; rw [this]; simp [fidx_any]
theorem m45_eq (s : List Int) (f : Int → Option Bool) (g : Int → Bool) (hf : ∀ x, f x = some (g x)) (hl : s.length < 9223372036854775807) : m45_slices_ContainsFuncint_int_ s f = some (s.any g) := by
  have : m57_slices_IndexFuncint_int_ s f = some (fidx g 0 s) := by
    unfold m57_slices_IndexFuncint_int_
    refine up_listI (fun i t => some (fidx g i t)) s hl ?_ ?_ (by omega)
    · intro sf; unfold m57_slices_IndexFuncint_int__B0; simp [fidx]
    · intro sf i x t h1 h2 h3 ih; unfold m57_slices_IndexFuncint_int__B0; obtain ⟨_, rfl⟩ := List.getElem?_eq_some_iff.1 h2
      cases h : g s[i] <;> simp [h1, h3, ih, hf, h, fidx, ck_eq]
  unfold m45_slices_ContainsFuncint_int_; rw [this]; simp [fidx_any]
def smallN (n : Int) : Bool := decide (-1152921504606846976 ≤ n) && decide (n ≤ 1152921504606846976)
def smallV (a : List Int) : Bool := a.all smallN
theorem m29_eq (a : List Int) (ha : a.length < 9223372036854775807) : m29_vector_small a = some (smallV a) := by
  unfold m29_vector_small
  rw [m45_eq a _ (fun n => !smallN n) _ ha]
  · have : (!a.any fun n => !smallN n) = smallV a := by unfold smallV; rw [List.not_any_eq_all_not]; simp
    simp [this]
  · intro n; unfold m46_vector_small_1 smallN
    by_cases h1 : n < -1152921504606846976
    · have : ¬ -1152921504606846976 ≤ n := by omega
      simp only [h1, this, decide_true, decide_false, cond_true, Bool.false_and, Bool.not_false]
    · have : -1152921504606846976 ≤ n := by omega
      by_cases h2 : 1152921504606846976 < n
      · have h3 : ¬ n ≤ 1152921504606846976 := by omega
        simp only [h1, this, h2, h3, decide_true, decide_false, cond_false, Bool.true_and, Bool.not_false]
      · have h3 : n ≤ 1152921504606846976 := by omega
        simp only [h1, this, h2, h3, decide_true, decide_false, cond_false, Bool.true_and, Bool.not_true]
/-- what Add answers -/
def addV (a b : List Int) : List Int := (a.zip b).map fun p => p.1 + p.2
theorem addV_len {a b : List Int} (h : a.length = b.length) : (addV a b).length = a.length := by simp [addV, h]
theorem m13_eq (a b : List Int) (ha : a.length < big) (hb : b.length < big) : m13_vector_Add a b = some (if a.length = b.length ∧ smallV a = true ∧ smallV b = true then (addV a b, 0) else ([], 60)) := by
  unfold m13_vector_Add
  simp only [jn_eq, m29_eq a (by simp [big] at ha; omega), m29_eq b (by simp [big] at hb; omega), Option.bind_some]
  by_cases h : a.length = b.length
  · have h' : (a.length : Int) = (b.length : Int) := by omega
    rw [m30_eq a b h (by simp [big] at ha; omega)]
    cases s1 : smallV a
    · simp [h, h', s1]
    cases s2 : smallV b
    · simp [h, h', s1, s2]
    simp only [h', ne_eq, not_true_eq_false, decide_false, cond_false, Bool.not_true, Option.bind_some, h, and_self, if_true]
    have main : ∀ (l : List (Int × Int)) (acc : List Int), (∀ p ∈ l, smallN p.1 = true ∧ smallN p.2 = true) → acc.length + l.length < big →
        rng1 m13_vector_Add_B0 (fun v => some (v, (0 : Int))) l acc = some (acc ++ l.map (fun p => p.1 + p.2), 0) := by
      intro l
      induction l with
      | nil => intro acc _ _; simp [rng1_nil]
      | cons p t ih =>
        intro acc hs hl
        rw [rng1_cons]
        obtain ⟨k1, k2⟩ := hs p (by simp)
        have IH := ih (acc ++ [p.1 + p.2]) (fun q hq => hs q (by simp [hq])) (by simp [big] at hl ⊢; omega)
        generalize rng1 m13_vector_Add_B0 (fun v => some (v, (0 : Int))) t = sf at IH ⊢
        unfold m13_vector_Add_B0
        simp only [smallN, Bool.and_eq_true, decide_eq_true_eq] at k1 k2
        have w : IntKind.i64.wrap (p.1 + p.2) = p.1 + p.2 := wrap_i64 (by omega) (by omega)
        simp only [List.length_cons, big] at hl
        rw [w, ck_eq (by simp; omega), IH]
        simp
    refine (main _ [] ?_ (by simp [big] at *; omega)).trans (by simp [addV])
    intro p hp
    obtain ⟨m1, m2⟩ := List.of_mem_zip hp
    exact ⟨List.all_eq_true.1 s1 _ m1, List.all_eq_true.1 s2 _ m2⟩
  · have h' : ¬ (a.length : Int) = (b.length : Int) := by omega
    simp [h', h]
/-- all of the same length as the first -/
def alikeB (l : List (List Int)) : Bool := l.all fun a => decide (a.length = (l.getD 0 default).length)
theorem alike_len {l : List (List Int)} (h : alikeB l = true) : ∃ n, ∀ a ∈ l, a.length = n := ⟨_, fun a ha => by simpa using List.all_eq_true.1 h a ha⟩
theorem alike_of {l : List (List Int)} {n : Nat} (h : ∀ a ∈ l, a.length = n) : alikeB l = true := by
  refine List.all_eq_true.2 fun a ha => ?_
  cases l with
  | nil => simp at ha
  | cons b t => simp [h a ha, h b (by simp)]
theorem m36_eq (l : List (List Int)) (f : Option (List Int → Option Bool)) (g : List Int → Bool) (hf : ∀ x ∈ l, ∀ f', f = some f' → f' x = some (g x)) (hl : l.length < 9223372036854775807) :
    m36_vector_alike l f = some (alikeB l && (!f.isSome || l.all g)) := by
  unfold m36_vector_alike
  rw [m42_eq l _ (fun a => !(decide (a.length = (l.getD 0 default).length) && (!f.isSome || g a))) _ hl]
  · have : (!l.any fun a => !(decide (a.length = (l.getD 0 default).length) && (!f.isSome || g a))) = (alikeB l && (!f.isSome || l.all g)) := by
      unfold alikeB
      rw [List.not_any_eq_all_not]
      have e : (fun a : List Int => !!(decide (a.length = (l.getD 0 default).length) && (!f.isSome || g a))) = fun a => (decide (a.length = (l.getD 0 default).length) && (!f.isSome || g a)) := by funext a; simp
      rw [e]
      cases f.isSome
      · simp
      · generalize (l.getD 0 default).length = n
        clear e hf hl
        simp only [Bool.not_true, Bool.false_or]
        induction l with
        | nil => rfl
        | cons x t ih => simp only [List.all_cons, ih]; cases decide (x.length = n) <;> cases g x <;> cases (t.all fun a => decide (a.length = n)) <;> simp
    rw [Option.bind_some, this]
  · intro a ha
    unfold m49_vector_alike_1
    have h0 : 0 < l.length := List.length_pos_of_mem ha
    rw [ck_eq (by omega)]
    by_cases h : a.length = (l.getD 0 default).length
    · have h' : (a.length : Int) = ((l.getD 0 default).length : Int) := by omega
      cases f with
      | none => simp [h', h]
      | some f' =>
        have := hf a ha f' rfl
        simp only [h', ne_eq, not_true_eq_false, decide_false, cond_false, Option.isSome_some, cond_true, callO, Option.bind_some, this, h, decide_true, Bool.true_and, Bool.not_true, Bool.false_or]
    · have h' : ¬ (a.length : Int) = ((l.getD 0 default).length : Int) := by omega
      simp only [h', ne_eq, not_false_eq_true, decide_true, cond_true, h, decide_false, Bool.false_and, Bool.not_false]
/-- the least ones of a sorted list -/
def stepL (x : List (List Int)) (a : List Int) : List (List Int) := bif x.any (fun b => bel b a) then x else x ++ [a]
def leastL (l : List (List Int)) : List (List Int) := (isortM (fun a b => decide (cmpL a b < 0)) l).foldl stepL []
theorem total (xs : List (List Int)) : TotalOn (fun a b => decide (cmpL a b < 0)) xs :=
  ⟨fun x _ => by have : cmpL x x = 0 := cmpL_zero.2 rfl; simp [this],
   fun x _ y _ h1 h2 => by
    simp only [decide_eq_false_iff_not] at h1 h2
    have := cmpL_anti x y
    exact cmpL_zero.1 (by omega),
   fun x _ y _ z _ h1 h2 => by simp only [decide_eq_true_eq] at *; exact cmpL_lt h1 h2⟩
theorem foldl_len (s x : List (List Int)) : (s.foldl stepL x).length ≤ x.length + s.length := by
  induction s generalizing x with
  | nil => simp
  | cons a t ih =>
    refine Nat.le_trans (ih _) ?_
    unfold stepL; cases x.any (fun b => bel b a) <;> simp <;> omega
theorem m37_eq (l : List (List Int)) (n : Nat) (hn : ∀ a ∈ l, a.length = n) (hl : l.length < big) (hs : n < big) : m37_vector_least l = some (leastL l) := by
  unfold m37_vector_least m50_slices_Cloneint_int_
  simp only [big] at hl hs
  rw [ck_eq (by simp; omega)]
  simp only [Option.bind_some, List.nil_append]
  have hcmp : ∀ a ∈ l, ∀ b, m34_slices_Compareint_int_ a b = some (cmpL a b) := fun a ha b => m34_eq a b (by have := hn a ha; omega)
  have hsort : sortM (fun x15 x16 => m34_slices_Compareint_int_ x15 x16) l = some (isortM (fun a b => decide (cmpL a b < 0)) l) := by
    have hlt : ∀ a ∈ l, ∀ b, ltM (fun x15 x16 => m34_slices_Compareint_int_ x15 x16) a b = decide (cmpL a b < 0) := fun a ha b => by
      show (match m34_slices_Compareint_int_ a b with | some n => decide (n < 0) | none => false) = _
      rw [hcmp a ha b]
    have hok : okSort (fun x15 x16 => m34_slices_Compareint_int_ x15 x16) l = true := by
      refine okSort_iff.2 ⟨⟨fun x hx => by rw [hlt x hx]; exact (total l).irr x hx, fun x hx y hy h1 h2 => by rw [hlt x hx] at h1; rw [hlt y hy] at h2; exact (total l).tot x hx y hy h1 h2,
        fun x hx y hy z hz h1 h2 => by rw [hlt x hx] at h1 ⊢; rw [hlt y hy] at h2; exact (total l).tr x hx y hy z hz h1 h2⟩, fun x hx y hy => ⟨_, hcmp x hx y⟩⟩
    unfold sortM
    rw [hok, cond_true]
    congr 1
    have key : ∀ (t : List (List Int)), (∀ a ∈ t, a ∈ l) → isortM (ltM fun x15 x16 => m34_slices_Compareint_int_ x15 x16) t = isortM (fun a b => decide (cmpL a b < 0)) t := by
      intro t
      induction t with
      | nil => intro _; rfl
      | cons x t ih =>
        intro ht
        show insM _ x (isortM _ t) = insM _ x (isortM _ t)
        rw [ih fun a ha => ht a (by simp [ha])]
        have : ∀ u : List (List Int), insM (ltM fun x15 x16 => m34_slices_Compareint_int_ x15 x16) x u = insM (fun a b => decide (cmpL a b < 0)) x u := by
          intro u
          induction u with
          | nil => rfl
          | cons y u ihu => unfold insM; rw [hlt x (ht x (by simp)), ihu]
        exact this _
    exact key l fun _ h => h
  rw [hsort]
  have hp := isortM_perm (fun a b => decide (cmpL a b < 0)) l
  have hsl : (isortM (fun a b => decide (cmpL a b < 0)) l).length = l.length := hp.length_eq
  simp only [Option.bind_some]
  rw [ck_eq (by omega)]
  unfold leastL
  have hmem : ∀ a ∈ isortM (fun a b => decide (cmpL a b < 0)) l, a.length = n := fun a ha => hn a (hp.mem_iff.1 ha)
  generalize isortM (fun a b => decide (cmpL a b < 0)) l = S at *
  refine up_listB (σ := List (List Int)) (fun i x => x.length ≤ i ∧ ∀ b ∈ x, b.length = n) (fun _ t x => some (t.foldl stepL x)) S (by omega) ?_ ?_ (by simp) ⟨by simp, by simp⟩
  · intro sf x _; unfold m37_vector_least_B0; simp
  · intro sf i x a t h1 h2 h3 ⟨hx, hxn⟩ ih
    obtain ⟨_, rfl⟩ := List.getElem?_eq_some_iff.1 h2
    unfold m37_vector_least_B0
    have c1 : (i : Int) < (S.length : Int) := by omega
    have g1 : S.getD (i : Int).toNat default = S[i] := by simp [h1]
    have han := hmem S[i] (List.getElem_mem _)
    simp only [c1, decide_true, cond_true, g1, h3]
    rw [ck_eq (by simp), m42_eq x _ (fun b => bel b S[i]) _ (by omega)]
    · simp only [Option.bind_some, List.foldl_cons]
      cases hany : x.any (fun b => bel b S[i])
      · simp only [Bool.not_false, cond_true]
        rw [ck_eq (by simp; omega), ih _ ⟨by simp; omega, fun b hb => by
          simp at hb; rcases hb with hb | hb
          · exact hxn b hb
          · rw [hb]; exact han⟩]
        simp [stepL, hany]
      · simp only [Bool.not_true, cond_false]
        rw [ih _ ⟨by omega, hxn⟩]
        simp [stepL, hany]
    · intro b hb
      unfold m52_vector_least_1
      rw [m32_eq b S[i] (by rw [hxn b hb, han]) (by have := hxn b hb; omega)]; rfl
theorem m21_eq (l : List (List Int)) (hl : l.length ≤ 4096) (hs : ∀ a ∈ l, a.length < big) : m21_vector_Least l = some (bif alikeB l then (leastL l, 0) else ([], 60)) := by
  unfold m21_vector_Least
  rw [m36_eq l none (fun _ => true) (by intro _ _ _ h; cases h) (by omega)]
  cases h : alikeB l
  · simp
  · obtain ⟨n, hn⟩ := alike_len h
    have h2 : ¬ (4096 : Int) < (l.length : Int) := by omega
    have hn' : ∃ n, (∀ a ∈ l, a.length = n) ∧ n < big := by
      cases l with
      | nil => exact ⟨0, by simp, by decide⟩
      | cons b t => exact ⟨n, hn, by have := hs b (by simp); rw [hn b (by simp)] at this; exact this⟩
    obtain ⟨n, hn, hb⟩ := hn'
    rw [m37_eq l n hn (by simp [big]; omega) hb]
    simp [h2]
/-! what the least ones are -/
structure IsLeast (l r : List (List Int)) : Prop where
  sub : ∀ a ∈ r, a ∈ l
  cov : ∀ a ∈ l, ∃ y ∈ r, bel y a = true
  up : r.Pairwise fun a b => cmpL a b < 0
  anti : ∀ y ∈ r, ∀ z ∈ r, bel y z = true → y = z
theorem leastL_is {l : List (List Int)} {n : Nat} (hn : ∀ a ∈ l, a.length = n) : IsLeast l (leastL l) := by
  have T := total l
  have hp := isortM_perm (fun a b => decide (cmpL a b < 0)) l
  have hs := isortM_sorted T l fun _ h => h
  unfold leastL
  have hmem : ∀ a ∈ isortM (fun a b => decide (cmpL a b < 0)) l, a.length = n := fun a ha => hn a (hp.mem_iff.1 ha)
  have key : ∀ (s p x : List (List Int)), (∀ a ∈ p, a.length = n) → (∀ a ∈ s, a.length = n) → s.Pairwise (fun a b => decide (cmpL b a < 0) = false) → (∀ a ∈ p, ∀ b ∈ s, decide (cmpL b a < 0) = false) → IsLeast p x → IsLeast (p ++ s) (s.foldl stepL x) := by
    intro s
    induction s with
    | nil => intro p x _ _ _ _ h; simpa using h
    | cons a t ih =>
      intro p x hpn hsn hso hps h
      rw [List.append_cons]
      have hso' := List.pairwise_cons.1 hso
      have han := hsn a (by simp)
      refine ih (p ++ [a]) (stepL x a) (fun b hb => ?_) (fun b hb => hsn b (by simp [hb])) hso'.2 (fun b hb c hc => ?_) ?_
      · simp at hb; rcases hb with hb | hb
        · exact hpn b hb
        · subst hb; exact han
      · simp at hb; rcases hb with hb | hb
        · exact hps b hb c (by simp [hc])
        · subst hb; exact hso'.1 c hc
      · unfold stepL
        cases hany : x.any (fun b => bel b a)
        · simp only [cond_false]
          have hno : ∀ b ∈ x, bel b a = false := fun b hb => by
            have := List.any_eq_false.1 hany b hb; simpa using this
          have hle : ∀ b ∈ x, cmpL b a < 0 := fun b hb => by
            have h1 := hps b (h.sub b hb) a (by simp)
            simp only [decide_eq_false_iff_not] at h1
            have h2 := cmpL_anti a b
            have h3 : cmpL b a ≠ 0 := fun e => by
              have := cmpL_zero.1 e; subst this
              have := hno b hb; rw [bel_refl] at this; cases this
            omega
          refine ⟨fun b hb => ?_, fun b hb => ?_, ?_, fun y hy z hz hyz => ?_⟩
          · simp at hb ⊢; rcases hb with hb | hb
            · exact .inl (h.sub b hb)
            · exact .inr hb
          · simp at hb; rcases hb with hb | hb
            · obtain ⟨y, hy, hb'⟩ := h.cov b hb; exact ⟨y, by simp [hy], hb'⟩
            · subst hb; exact ⟨b, by simp, bel_refl b⟩
          · rw [List.pairwise_append]
            exact ⟨h.up, by simp, fun b hb c hc => by simp at hc; subst hc; exact hle b hb⟩
          · simp at hy hz
            rcases hy with hy | hy <;> rcases hz with hz | hz
            · exact h.anti y hy z hz hyz
            · subst hz; rw [hno y hy] at hyz; cases hyz
            · subst hy
              have h1 := bel_cmp (by rw [han, hpn z (h.sub z hz)]) hyz
              have h2 := hle z hz
              have h3 := cmpL_anti y z
              omega
            · rw [hy, hz]
        · simp only [cond_true]
          obtain ⟨y, hy, hya⟩ := List.any_eq_true.1 hany
          refine ⟨fun b hb => by simp [h.sub b hb], fun b hb => ?_, h.up, h.anti⟩
          simp at hb; rcases hb with hb | hb
          · exact h.cov b hb
          · subst hb; exact ⟨y, hy, hya⟩
  have := key _ [] [] (by simp) hmem hs (by simp) ⟨by simp, by simp, by simp, by simp⟩
  simp only [List.nil_append] at this
  exact ⟨fun a ha => hp.mem_iff.1 (this.sub a ha), fun a ha => this.cov a (hp.mem_iff.2 ha), this.up, this.anti⟩
theorem bel_antisymm {a b : List Int} (hl : a.length = b.length) (h1 : bel a b = true) (h2 : bel b a = true) : a = b := by
  have k1 := bel_cmp hl h1
  have k2 := bel_cmp hl.symm h2
  have k3 := cmpL_anti a b
  exact cmpL_zero.1 (by omega)
theorem IsLeast.mem {l r : List (List Int)} (h : IsLeast l r) {n : Nat} (hn : ∀ a ∈ l, a.length = n) (a : List Int) : a ∈ r ↔ a ∈ l ∧ ∀ b ∈ l, bel b a = true → b = a := by
  constructor
  · intro ha
    refine ⟨h.sub a ha, fun b hb hba => ?_⟩
    obtain ⟨y, hy, hyb⟩ := h.cov b hb
    have hya := bel_trans (by rw [hn y (h.sub y hy), hn b hb]) (by rw [hn b hb, hn a (h.sub a ha)]) hyb hba
    have := h.anti y hy a ha hya
    subst this
    exact bel_antisymm (by rw [hn b hb, hn y (h.sub y hy)]) hba hyb
  · rintro ⟨ha, hm⟩
    obtain ⟨y, hy, hya⟩ := h.cov a ha
    have := hm y (h.sub y hy) hya
    subst this; exact hy
theorem up_unique {r s : List (List Int)} (h1 : r.Pairwise fun a b => cmpL a b < 0) (h2 : s.Pairwise fun a b => cmpL a b < 0) (h : ∀ a, a ∈ r ↔ a ∈ s) : r = s := by
  have nd : ∀ {t : List (List Int)}, t.Pairwise (fun a b => cmpL a b < 0) → t.Nodup := fun ht => ht.imp (fun {a b} hab e => by subst e; have : cmpL a a = 0 := cmpL_zero.2 rfl; omega)
  refine List.Perm.eq_of_pairwise (le := fun a b => cmpL a b < 0) ?_ h1 h2 ((List.perm_ext_iff_of_nodup (nd h1) (nd h2)).2 h)
  intro a b _ _ k1 k2
  have := cmpL_anti a b; omega
/-- the least ones hang on the elements alone -/
theorem leastL_eq {l m : List (List Int)} {n : Nat} (hl : ∀ a ∈ l, a.length = n) (h : ∀ a, a ∈ l ↔ a ∈ m) : leastL l = leastL m := by
  have hm : ∀ a ∈ m, a.length = n := fun a ha => hl a ((h a).2 ha)
  have il := leastL_is hl
  have im := leastL_is hm
  refine up_unique il.up im.up fun a => ?_
  rw [il.mem hl, im.mem hm]
  constructor
  · rintro ⟨h1, h2⟩; exact ⟨(h a).1 h1, fun b hb => h2 b ((h b).2 hb)⟩
  · rintro ⟨h1, h2⟩; exact ⟨(h a).2 h1, fun b hb => h2 b ((h b).1 hb)⟩
theorem leastL_again {l : List (List Int)} {n : Nat} (hl : ∀ a ∈ l, a.length = n) : leastL (leastL l) = leastL l := by
  have il := leastL_is hl
  have hl2 : ∀ a ∈ leastL l, a.length = n := fun a ha => hl a (il.sub a ha)
  have i2 := leastL_is hl2
  refine up_unique i2.up il.up fun a => ?_
  rw [i2.mem hl2]
  constructor
  · rintro ⟨h, _⟩; exact h
  · intro h; exact ⟨h, fun b hb hba => il.anti b hb a h hba⟩
theorem leastL_len (l : List (List Int)) : (leastL l).length ≤ l.length := by
  unfold leastL
  refine Nat.le_trans (foldl_len _ _) ?_
  rw [(isortM_perm _ l).length_eq]; simp
theorem m25_eq (l : List (List Int)) (c : List Int) (hl : l.length < 9223372036854775807) (hs : ∀ a ∈ l, a.length < 9223372036854775807) :
    m25_vector_Fits l c = some (bif l.all (fun a => decide (a.length = c.length)) then (l.any (fun a => bel a c), 0) else (false, 60)) := by
  unfold m25_vector_Fits
  rw [m42_eq l _ (fun a => !decide (a.length = c.length)) _ hl]
  · simp only [Option.bind_some]
    cases h : l.all (fun a => decide (a.length = c.length))
    · have : l.any (fun a => !decide (a.length = c.length)) = true := by rw [← Bool.not_eq_false', List.not_any_eq_all_not]; simpa using h
      simp [this]
    · have : l.any (fun a => !decide (a.length = c.length)) = false := by rw [← Bool.not_eq_true', List.not_any_eq_all_not]; simpa using h
      rw [this, cond_false, cond_true, m42_eq l _ (fun a => bel a c) _ hl]
      · rfl
      · intro a ha
        have := List.all_eq_true.1 h a ha
        simp only [decide_eq_true_eq] at this
        unfold m44_vector_Fits_2; rw [m32_eq a c this (hs a ha)]; rfl
  · intro a _
    unfold m43_vector_Fits_1
    have : ((a.length : Int) = (c.length : Int)) = (a.length = c.length) := by apply propext; omega
    simp [this]
end Go.Fx


/- VectorTotal: the plain law. -/
set_option linter.unusedSimpArgs false
set_option linter.unusedVariables false
namespace Go.Fx
open Go Go.RowKit
theorem VectorTotal_law (a b c : List Int) (_ : SmL (InK .i64) a) (_ : SmL (InK .i64) b) (_ : SmL (InK .i64) c) : m8_overflightlaw06_VectorTotal a b c = some true := by
  unfold m8_overflightlaw06_VectorTotal
  rw [sane_eq]
  simp only [Option.bind_some, jn_eq, Bool.not_true, cond_false]
  rw [m12_eq _ (by simp)]
  cases hf : (List.all [a, b, c] (fun a => decide (a.length ≤ 20)) && decide ([a, b, c].length ≤ 30))
  · simp
  obtain ⟨f1, _⟩ := few_spec hf
  have la := f1 a (by simp); have lb := f1 b (by simp); have lc := f1 c (by simp)
  rw [m17_eq a b (by omega), m17_eq b c (by omega), m17_eq a c (by omega), m17_eq b a (by omega), m19_eq a b (by omega), m28_eq a b (by omega), m28_eq b c (by omega), m28_eq a c (by omega)]
  simp only [Option.bind_some, Bool.not_true, cond_false]
  by_cases h1 : a.length = b.length
  case neg =>
    have h1' : ¬ b.length = a.length := fun e => h1 e.symm
    rw [if_neg h1, if_neg h1']
    by_cases h2 : b.length = c.length
    · rw [if_pos h2]; simp
    · rw [if_neg h2]; simp
  by_cases h2 : b.length = c.length
  case neg => rw [if_pos h1, if_neg h2, if_pos h1.symm]; simp
  have h3 : a.length = c.length := h1.trans h2
  rw [if_pos h1, if_pos h2, if_pos h3, if_pos h1.symm, decide_eq_true h1, decide_eq_true h2, decide_eq_true h3]
  simp only [ne_eq, not_true_eq_false, decide_false, cond_false, Bool.true_and, Option.bind_some]
  have v1 := cmpL_vals a b
  have an := cmpL_anti a b
  have z1 : (decide (cmpL a b = 0) == decide (a = b)) = true := by
    by_cases h : a = b
    · have : cmpL a b = 0 := cmpL_zero.2 h
      simp [h, this]; exact cmpL_zero.2 rfl
    · have : ¬ cmpL a b = 0 := fun e => h (cmpL_zero.1 e)
      simp [h, this]
  have w1 : IntKind.i64.wrap (0 - cmpL b a) = cmpL a b := by rw [an]; exact (wrap_i64 (by omega) (by omega)).trans (by omega)
  have b1 : ¬ cmpL a b < -1 := by omega
  have b2 : ¬ 1 < cmpL a b := by omega
  have tr : cmpL a b ≤ 0 → cmpL b c ≤ 0 → cmpL a c ≤ 0 := cmpL_trans
  have bt : bel a b = true → bel b c = true → bel a c = true := bel_trans h1 h2
  have bc : bel a b = true → cmpL a b ≤ 0 := bel_cmp h1
  simp only [w1, z1, b1, b2, not_true_eq_false, decide_false, cond_false, Bool.not_true]
  have X : (bif decide (cmpL a b ≤ 0) then bif decide (cmpL b c ≤ 0) then !decide (0 < cmpL a c) else true else true) = true := by
    by_cases k1 : cmpL a b ≤ 0
    · by_cases k2 : cmpL b c ≤ 0
      · have := tr k1 k2; simp [k1, k2]; omega
      · simp [k1, k2]
    · simp [k1]
  have Y : ∀ o : Option Bool, o = some true → (bif bel a b then bif bel b c then some (!!bel a c) else some true else some true) = some true := by
    intro o _
    cases hb : bel a b
    · rfl
    · cases hc : bel b c
      · rfl
      · simp [bt hb hc]
  have Y := Y _ rfl
  have Z : (bif bel a b then bif decide (0 < cmpL a b) then (some false : Option Bool) else some true else some true) = some true := by
    cases hb : bel a b
    · rfl
    · have := bc hb; have : ¬ 0 < cmpL a b := by omega
      simp [this]
  cases hb : bel a b
  · simp only [cond_false]
    by_cases k1 : cmpL a b ≤ 0
    · by_cases k2 : cmpL b c ≤ 0
      · have := tr k1 k2
        have k3 : ¬ 0 < cmpL a c := by omega
        simp [k1, k2, k3]
      · simp [k1, k2]
    · simp [k1]
  · have k1 := bc hb
    have k0 : ¬ 0 < cmpL a b := by omega
    simp only [cond_true, k0, decide_false, cond_false, k1, decide_true]
    have Y' : (bif bel b c then some (!!bel a c) else some true) = some true := by rw [hb] at Y; exact Y
    by_cases k2 : cmpL b c ≤ 0
    · have := tr k1 k2
      have k3 : ¬ 0 < cmpL a c := by omega
      simp only [k2, k3, decide_true, decide_false, cond_true, Bool.not_false]
      exact Y'
    · simp only [k2, decide_false, cond_false]
      exact Y'
end Go.Fx


namespace Go.Proofs.Yteohplgecfdafaa.lawVectorTotal
open Go Go.Proofs Go.ChangeShapes Go.WideShapes Go.ChangeAt Go.RowKit Go.Fx
open Go.ChangeMaps (open_string shut_string)
set_option linter.unusedVariables false
set_option maxRecDepth 100000
theorem own : ownKnob Try.prog.godebug = none := by kernel_rfl
theorem laidOut : laidOutB Try.prog = true := by kernel_rfl
set_option maxRecDepth 100000 in
set_option maxHeartbeats 1000000 in
theorem lifted (os : Os) (started : os.Started) (H : Type) (enc : TypeId × Value → H) :
    ReturnsInHanded {} Try.checked os 8 .any (Rows.vectorTotalSpec.pre6 enc Try.prog Try.f8 Rows.vectorTotalRow.domain false) (Rows.vectorTotalSpec.post enc Try.prog Try.f8 false true false false) := by
  refine returnsInHanded_of_change_sized (C := Try.checked) own started (by kernel_rfl) Try.func8
    (ChangeSpec.witness6 (enc := enc) (C := Try.checked) false ⟨#[], #[(.slice none 0 0), (.slice none 0 0), (.slice none 0 0)], []⟩ 8 (by kernel_rfl) (by kernel_rfl) (by kernel_rfl) (by kernel_rfl)) ?_
  intro W base args ds gs before hval0 hW hcnd hsz _
  have hval : ∀ (j : Nat) t v, Try.f8.params[j]? = some t → args[j]? = some v → Value.okWide Try.prog W .any base t v := hval0
  have hW' := hW
  obtain ⟨p, q, hA0, hV, rfl, hfz, hnd⟩ := hW
  have hA : DataW.TrodAll enc Try.prog W 0 (fun _ => true) true Try.f8.params.toList args.toList ds p := hA0
  rw [Try.params8] at hA hval
  obtain ⟨v0, vs0, d0, ds0, p0, q0, hargs, rfl, rfl, h0, r0⟩ := trodAll_cons hA
  obtain ⟨v1, vs1, d1, ds1, p1, q1, rfl, rfl, rfl, h1, r1⟩ := trodAll_cons r0
  obtain ⟨v2, vs2, d2, ds2, p2, q2, rfl, rfl, rfl, h2, r2⟩ := trodAll_cons r1
  obtain ⟨rfl, rfl, rfl⟩ := trodAll_nil r2
  obtain rfl : args = #[v0, v1, v2] := by cases args; simp_all
  obtain ⟨rfl, rfl⟩ := trodVars_none hV
  have k0 := h0
  have lt0 : ∀ x ∈ p0, x.block < W.heap.size := by obtain ⟨m, hm⟩ := k0; exact DataW.trod_lt m _ _ _ hm
  obtain ⟨fu0, hf0⟩ := h0
  obtain ⟨a, rr0, sm0⟩ := rd22.2 _ _ _ hf0
  replace sm0 := sm0 (fun n hn => by have := List.all_eq_true.1 hsz n (DataW.weights_mem_each (j := 0) (t := 22) rfl rfl n hn); simpa using this)
  obtain ⟨b0, l0, c0, rfl⟩ := okWide_slice Try.underlying22 (hval 0 22 v0 rfl rfl)
  replace rr0 : (rSl (rInt .i64)).rd W [] [.slice b0 l0 c0] a := rr0
  obtain ⟨a_a, c_a, e0, f_a⟩ := un_sl rr0
  simp only [Value.slice.injEq] at e0
  obtain ⟨rfl, rfl, rfl⟩ := e0
  have k1 := h1
  have lt1 : ∀ x ∈ p1, x.block < W.heap.size := by obtain ⟨m, hm⟩ := k1; exact DataW.trod_lt m _ _ _ hm
  obtain ⟨fu1, hf1⟩ := h1
  obtain ⟨b, rr1, sm1⟩ := rd22.2 _ _ _ hf1
  replace sm1 := sm1 (fun n hn => by have := List.all_eq_true.1 hsz n (DataW.weights_mem_each (j := 1) (t := 22) rfl rfl n hn); simpa using this)
  obtain ⟨b1, l1, c1, rfl⟩ := okWide_slice Try.underlying22 (hval 1 22 v1 rfl rfl)
  replace rr1 : (rSl (rInt .i64)).rd W [] [.slice b1 l1 c1] b := rr1
  obtain ⟨a_b, c_b, e1, f_b⟩ := un_sl rr1
  simp only [Value.slice.injEq] at e1
  obtain ⟨rfl, rfl, rfl⟩ := e1
  have k2 := h2
  have lt2 : ∀ x ∈ p2, x.block < W.heap.size := by obtain ⟨m, hm⟩ := k2; exact DataW.trod_lt m _ _ _ hm
  obtain ⟨fu2, hf2⟩ := h2
  obtain ⟨c, rr2, sm2⟩ := rd22.2 _ _ _ hf2
  replace sm2 := sm2 (fun n hn => by have := List.all_eq_true.1 hsz n (DataW.weights_mem_each (j := 2) (t := 22) rfl rfl n hn); simpa using this)
  obtain ⟨b2, l2, c2, rfl⟩ := okWide_slice Try.underlying22 (hval 2 22 v2 rfl rfl)
  replace rr2 : (rSl (rInt .i64)).rd W [] [.slice b2 l2 c2] c := rr2
  obtain ⟨a_c, c_c, e2, f_c⟩ := un_sl rr2
  simp only [Value.slice.injEq] at e2
  obtain ⟨rfl, rfl, rfl⟩ := e2
  have hm : m8_overflightlaw06_VectorTotal a b c = some true := VectorTotal_law _ _ _ sm0 sm1 sm2
  have hc := Fn.calls (c8_overflightlaw06_VectorTotal (a := a) (b := b) (c := c) (w := W) (O := []) (by simp) f_a f_b f_c hm)
  clear hA0 hval0
  refine Calls.mono hc ?_
  rintro e W' ⟨v, rfl, bel, hv⟩
  replace bel := bel.below; obtain rfl : v = .bool true := hv
  exact ⟨_, rfl, _, _, _, [], _, [], hW', trodAll_mk1 (shut_bool Try.underlying4 _), (trodAll_cons_mk (Below.trod laidOut (by kernel_rfl) (of_decide_eq_true (by kernel_rfl)) k0 bel lt0) (trodAll_cons_mk (Below.trod laidOut (by kernel_rfl) (of_decide_eq_true (by kernel_rfl)) k1 bel lt1) (trodAll_cons_mk (Below.trod laidOut (by kernel_rfl) (of_decide_eq_true (by kernel_rfl)) k2 bel lt2) trodAll_mk0))), rfl, bel.frame _, fun h => by cases h⟩
theorem over : Rows.vectorTotalRow.holds Try.pinned (OpenSpec.ofChange Rows.vectorTotalSpec) :=
  OpenClaim.holds_of_wide 8 Try.f8 rfl rfl rfl rfl rfl rfl rfl ⟨rfl, rfl, rfl, rfl, rfl⟩ rfl rfl rfl rfl rfl (by kernel_rfl) Try.func8 (by kernel_rfl)
    (of_decide_eq_true (by kernel_rfl)) (by unfold Func.isWrapper; first | (rw [if_pos (by decide +kernel)]; kernel_rfl) | (rw [if_neg (by decide +kernel)]; exact ⟨rfl, rfl⟩))
    (fun os started H enc _ => lifted os started H enc)
theorem proved : Rows.VectorTotalSaid := over
end Go.Proofs.Yteohplgecfdafaa.lawVectorTotal

