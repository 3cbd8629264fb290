/- Part 4 of the proof: value and Cycles answer as the specification does, for every assignment of a small round. -/
import Derived.Test.YtnenhpedfcngbaaCyclesSpec3
set_option linter.unusedVariables false
set_option linter.unusedSimpArgs false
set_option maxRecDepth 100000
set_option maxHeartbeats 0
namespace Go.Fx
open Go Go.RowKit Go.Proofs
def m10_overflightlaw38_sane : Option Bool :=
 (m18_clearing_Best (⟨3, [0, 1], [[9, 2, (-1)], [4, 8, 30]]⟩ : XRound)).bind fun best_1 =>
 (m12_clearing_Value (⟨3, [0, 1], [[9, 2, (-1)], [4, 8, 30]]⟩ : XRound) best_1.1).bind fun value_1 =>
 (m14_clearing_Cycles (⟨3, [0, 1], [[9, 2, (-1)], [4, 8, 30]]⟩ : XRound) best_1.1).bind fun cycles_1 =>
 (m14_clearing_Cycles (⟨3, [0, 1], [[9, 2, (-1)], [4, 8, 30]]⟩ : XRound) [1, 2]).bind fun cycles_2 =>
 (m14_clearing_Cycles (⟨3, [0, 1], [[9, 2, (-1)], [4, 8, 30]]⟩ : XRound) [0, 1]).bind fun cycles_3 =>
 (m18_clearing_Best (⟨1, ([] : List Int), ([] : List (List Int))⟩ : XRound)).bind fun best_2 =>
 (m18_clearing_Best (⟨0, ([] : List Int), ([] : List (List Int))⟩ : XRound)).bind fun best_3 =>
 (m18_clearing_Best (⟨2, [0, 1], [[1, 2], [2, 1]]⟩ : XRound)).bind fun best_4 =>
 jn (fun (v_1 : Bool) =>
  some v_1)
 (fun k219 =>
  bif (decide (best_1.2 = 0)) then
   (m16_overflightref37_SameInts best_1.1 [1, 0]).bind fun sameints_1 =>
   bif sameints_1 then
    bif (decide (value_1.2 = 0)) then
     (m16_overflightref37_SameInts value_1.1 [6, 2]).bind fun sameints_2 =>
     bif sameints_2 then
      bif (decide (cycles_1.2 = 0)) then
       (m17_overflightref38_SameLists cycles_1.1 [[0, 1]]).bind fun samelists_1 =>
       bif samelists_1 then
        bif (decide (cycles_2.2 = 0)) then
         (m17_overflightref38_SameLists cycles_2.1 [[1, 0]]).bind fun samelists_2 =>
         bif samelists_2 then
          bif (decide (cycles_3.2 = 0)) then
           bif (decide ((cycles_3.1.length : Int) = 0)) then
            bif (decide (best_2.2 = 0)) then
             bif (decide ((best_2.1.length : Int) = 0)) then
              bif (decide (best_3.2 = 370)) then
               bif (decide (best_4.2 = 0)) then
                (m16_overflightref37_SameInts best_4.1 [0, 1]).bind fun sameints_3 =>
                bif sameints_3 then
                 (m20_clearing_Verify (⟨3, [0, 1], [[9, 2, (-1)], [4, 8, 30]]⟩ : XRound) best_1.1).bind fun verify_1 =>
                 bif (decide (verify_1 = 0)) then
                  (m20_clearing_Verify (⟨3, [0, 1], [[9, 2, (-1)], [4, 8, 30]]⟩ : XRound) [0, 1]).bind fun verify_2 =>
                  bif (decide (verify_2 = 380)) then
                   (m20_clearing_Verify (⟨3, [0, 1], [[9, 2, (-1)], [4, 8, 30]]⟩ : XRound) [1, 2]).bind fun verify_3 =>
                   k219 (decide (verify_3 = 380))
                  else
                   k219 false
                 else
                  k219 false
                else
                 k219 false
               else
                k219 false
              else
               k219 false
             else
              k219 false
            else
             k219 false
           else
            k219 false
          else
           k219 false
         else
          k219 false
        else
         k219 false
       else
        k219 false
      else
       k219 false
     else
      k219 false
    else
     k219 false
   else
    k219 false
  else
   k219 false)

theorem c10_overflightlaw38_sane {w : World} {O : List Nat} (hO : ∀ k ∈ O, k < w.heap.size) {x : Bool} (hm : m10_overflightlaw38_sane = some x) :
 Ok Try.prog 10 [] w O vB x := by
 unfold m10_overflightlaw38_sane at hm
 refine Fn_of_Wp (n := 158) (xs := [.tmp 0]) Try.func10 rfl Try.ntmps10 Try.results10 rfl ?_
 have hs := St.start hO
 refine Wp_seq (Wp_region ?_)
 refine Rg_op rfl (op_assign (v := (Value.bool false)) rfl ?_)
 refine Rg_nil (Wp_seq (Wp_region ?_))
 refine Rg_op rfl (op_buildSlice (cs := [(Value.int .i64 0), (Value.int .i64 1)]) (parts := [(0, .const (.int .i64 0)), (1, .const (.int .i64 1))]) ty22 ty3 hs (by decide) rfl ?_)
 intro b1 w2 hx5 p3 hs4
 clear p3
 refine Rg_op rfl (op_buildSlice (cs := [(Value.int .i64 9), (Value.int .i64 2), (Value.int .i64 (-1))]) (parts := [(0, .const (.int .i64 9)), (1, .const (.int .i64 2)), (2, .const (.int .i64 (-1)))]) ty22 ty3 hs4 (by decide) rfl ?_)
 intro b7 w8 hx11 p9 hs10
 clear p9 hs4
 refine Rg_op rfl (op_buildSlice (cs := [(Value.int .i64 4), (Value.int .i64 8), (Value.int .i64 30)]) (parts := [(0, .const (.int .i64 4)), (1, .const (.int .i64 8)), (2, .const (.int .i64 30))]) ty22 ty3 hs10 (by decide) rfl ?_)
 intro b13 w14 hx17 p15 hs16
 clear p15 hs10
 obtain ⟨hs20, p21, f19⟩ := St.publish (i := 1) (o := 0) (c := 3) (xs := [9, 2, (-1)]) hs16 rfl (show Els (rInt .i64) _ _ [(Value.int .i64 9), (Value.int .i64 2), (Value.int .i64 (-1))] [9, 2, (-1)] from ⟨_, _, rfl, (mk_int (show InK .i64 9 from by decide)), ⟨_, _, rfl, (mk_int (show InK .i64 2 from by decide)), ⟨_, _, rfl, (mk_int (show InK .i64 (-1) from by decide)), Els.nil⟩⟩⟩) (le_lit rfl) (le_lit rfl) (le_lit rfl)
 clear p21 hs16
 obtain ⟨hs23, p24, f22⟩ := St.publish (i := 0) (o := 0) (c := 3) (xs := [4, 8, 30]) hs20 rfl (show Els (rInt .i64) _ _ [(Value.int .i64 4), (Value.int .i64 8), (Value.int .i64 30)] [4, 8, 30] from ⟨_, _, rfl, (mk_int (show InK .i64 4 from by decide)), ⟨_, _, rfl, (mk_int (show InK .i64 8 from by decide)), ⟨_, _, rfl, (mk_int (show InK .i64 30 from by decide)), Els.nil⟩⟩⟩) (le_lit rfl) (le_lit rfl) (le_lit rfl)
 replace f19 := f19.step p24; clear p24 hs20
 refine Rg_op rfl (op_buildSlice (cs := [(Value.slice (some ⟨b7, 0, none⟩) [9, 2, (-1)].length 3), (Value.slice (some ⟨b13, 0, none⟩) [4, 8, 30].length 3)]) (parts := [(0, .tmp 20), (1, .tmp 21)]) ty23 ty22 hs23 (by decide) rfl ?_)
 intro b25 w26 hx29 p27 hs28
 replace f19 := f19.step p27; replace f22 := f22.step p27; clear p27 hs23
 have f31 := Gs.of_cells (p := (rInt .i64)) (e := 3) (bl := b1) (c := 2) (w := w26) (O := ks [(some b25, Obj.cells [(Value.slice (some ⟨b7, 0, none⟩) [9, 2, (-1)].length 3), (Value.slice (some ⟨b13, 0, none⟩) [4, 8, 30].length 3)].toArray 22), (some b1, Obj.cells [(Value.int .i64 0), (Value.int .i64 1)].toArray 3)] O) (show Els (rInt .i64) _ _ [(Value.int .i64 0), (Value.int .i64 1)] [0, 1] from ⟨_, _, rfl, (mk_int (show InK .i64 0 from by decide)), ⟨_, _, rfl, (mk_int (show InK .i64 1 from by decide)), Els.nil⟩⟩) rfl (le_lit rfl)
 have f32 := Gs.of_cells (p := (rSl (rInt .i64))) (e := 22) (bl := b25) (c := 2) (w := w26) (O := ks [(some b25, Obj.cells [(Value.slice (some ⟨b7, 0, none⟩) [9, 2, (-1)].length 3), (Value.slice (some ⟨b13, 0, none⟩) [4, 8, 30].length 3)].toArray 22), (some b1, (Obj.cells [(Value.int .i64 0), (Value.int .i64 1)].toArray 3))] O) (show Els (rSl (rInt .i64)) _ _ [(Value.slice (some ⟨b7, 0, none⟩) [9, 2, (-1)].length 3), (Value.slice (some ⟨b13, 0, none⟩) [4, 8, 30].length 3)] [[9, 2, (-1)], [4, 8, 30]] from ⟨_, _, rfl, (mk_sl f19), ⟨_, _, rfl, (mk_sl f22), Els.nil⟩⟩) rfl (le_lit rfl)
 refine Rg_op rfl (op_build (vs := [(Value.int .i64 3), (Value.slice (some ⟨b1, 0, none⟩) [0, 1].length 2), (Value.slice (some ⟨b25, 0, none⟩) [[9, 2, (-1)], [4, 8, 30]].length 2)]) (parts := [(0, .const (.int .i64 3)), (1, .tmp 19), (2, .tmp 22)]) ty25 pl25 rfl ?_)
 refine Rg_op rfl (op_alloc ty25 hs28 ?_)
 intro b33 w34 _ p35 hs36
 replace f19 := f19.step p35; replace f22 := f22.step p35; replace f31 := f31.step p35; replace f32 := f32.step p35; clear p35 hs28
 refine Rg_op_ (op_store (cs := [(Value.int .i64 0), (Value.slice none 0 0), (Value.slice none 0 0)]) (vs := [(Value.int .i64 3), (Value.slice (some ⟨b1, 0, none⟩) [0, 1].length 2), (Value.slice (some ⟨b25, 0, none⟩) [[9, 2, (-1)], [4, 8, 30]].length 2)]) (cs' := [(Value.int .i64 3), (Value.slice (some ⟨b1, 0, none⟩) [0, 1].length 2), (Value.slice (some ⟨b25, 0, none⟩) [[9, 2, (-1)], [4, 8, 30]].length 2)]) (bs' := [(some b33, Obj.cells [(Value.int .i64 3), (Value.slice (some ⟨b1, 0, none⟩) [0, 1].length 2), (Value.slice (some ⟨b25, 0, none⟩) [[9, 2, (-1)], [4, 8, 30]].length 2)].toArray 25), (some b25, (Obj.cells [(Value.slice (some ⟨b7, 0, none⟩) [9, 2, (-1)].length 3), (Value.slice (some ⟨b13, 0, none⟩) [4, 8, 30].length 3)].toArray 22)), (some b1, (Obj.cells [(Value.int .i64 0), (Value.int .i64 1)].toArray 3))]) (i := 0) ty25 hs36 rfl rfl rfl rfl rfl (le_lit rfl) rfl rfl rfl ?_)
 intro w38 p39 hs40
 replace f19 := f19.step p39; replace f22 := f22.step p39; replace f31 := f31.step p39; replace f32 := f32.step p39; clear p39 hs36
 refine Rg_nil (Wp_seq ?_)
 clear f19 f22
 refine Wp_region ?_
 refine Rg_op rfl (op_loadA (cs := [(Value.int .i64 3), (Value.slice (some ⟨b1, 0, none⟩) [0, 1].length 2), (Value.slice (some ⟨b25, 0, none⟩) [[9, 2, (-1)], [4, 8, 30]].length 2)]) (vs := [(Value.int .i64 3), (Value.slice (some ⟨b1, 0, none⟩) [0, 1].length 2), (Value.slice (some ⟨b25, 0, none⟩) [[9, 2, (-1)], [4, 8, 30]].length 2)]) (i := 0) ty25 hs40 rfl rfl rfl rfl ?_)
 obtain ⟨hs42, p43, f41⟩ := Gs.publish (i := 2) hs40 rfl f31
 replace f32 := f32.step p43; clear p43 hs40
 obtain ⟨hs45, p46, f44⟩ := Gs.publish (i := 1) hs42 rfl f32
 replace f41 := f41.step p46; clear p46 hs42
 replace hm := bd hm; obtain ⟨best_1, hv47, hm⟩ := hm
 refine Rg_op rfl (op_call Try.call18 (c18_clearing_Best (r_ := (⟨3, [0, 1], [[9, 2, (-1)], [4, 8, 30]]⟩ : XRound)) hs45.ltw (show InK .i64 3 from by decide) f41 f44 hv47) rfl ?_)
 rintro v48 w49 ⟨hx50, h51⟩
 have hs52 := hs45.call hx50
 have p53 := Step.ext (O := ks [(some b33, Obj.cells [(Value.int .i64 3), (Value.slice (some ⟨b1, 0, none⟩) [0, 1].length 2), (Value.slice (some ⟨b25, 0, none⟩) [[9, 2, (-1)], [4, 8, 30]].length 2)].toArray 25)] O) hx50
 clear hx50
 replace f41 := f41.step p53; replace f44 := f44.step p53; clear p53 hs45
 obtain ⟨v54, v55, rfl, h56, h57⟩ := h51
 obtain ⟨Aa, Ca, rfl, Fa⟩ := un_sl h56
 obtain ⟨rfl, Ra⟩ := h57
 refine Rg_op rfl (op_move (v := (Value.tuple [(Value.slice Aa best_1.1.length Ca), (Value.int .i64 best_1.2)].toArray)) rfl ?_)
 refine Rg_op rfl (op_extract (v := (Value.slice Aa best_1.1.length Ca)) rfl rfl ?_)
 refine Rg_op rfl (op_extract (v := (Value.int .i64 best_1.2)) rfl rfl ?_)
 refine Rg_op rfl (op_assign (v := (Value.slice Aa best_1.1.length Ca)) rfl ?_)
 refine Rg_op rfl (op_assign (v := (Value.int .i64 best_1.2)) rfl ?_)
 refine Rg_nil (Wp_seq (Wp_region ?_))
 refine Rg_op rfl (op_loadA (cs := [(Value.int .i64 3), (Value.slice (some ⟨b1, 0, none⟩) [0, 1].length 2), (Value.slice (some ⟨b25, 0, none⟩) [[9, 2, (-1)], [4, 8, 30]].length 2)]) (vs := [(Value.int .i64 3), (Value.slice (some ⟨b1, 0, none⟩) [0, 1].length 2), (Value.slice (some ⟨b25, 0, none⟩) [[9, 2, (-1)], [4, 8, 30]].length 2)]) (i := 0) ty25 hs52 rfl rfl rfl rfl ?_)
 refine Rg_op rfl (op_move (v := (Value.slice Aa best_1.1.length Ca)) rfl ?_)
 replace hm := bd hm; obtain ⟨value_1, hv60, hm⟩ := hm
 refine Rg_op rfl (op_call Try.call12 (c12_clearing_Value (r_ := (⟨3, [0, 1], [[9, 2, (-1)], [4, 8, 30]]⟩ : XRound)) (slots := best_1.1) hs52.ltw (show InK .i64 3 from by decide) f41 f44 Fa hv60) rfl ?_)
 rintro v61 w62 ⟨hx63, h64⟩
 have hs65 := hs52.call hx63
 have p66 := Step.ext (O := ks [(some b33, Obj.cells [(Value.int .i64 3), (Value.slice (some ⟨b1, 0, none⟩) [0, 1].length 2), (Value.slice (some ⟨b25, 0, none⟩) [[9, 2, (-1)], [4, 8, 30]].length 2)].toArray 25)] O) hx63
 clear hx63
 replace f41 := f41.step p66; replace f44 := f44.step p66; replace Fa := Fa.step p66; clear p66 hs52
 obtain ⟨v67, v68, rfl, h69, h70⟩ := h64
 obtain ⟨Ab, Cb, rfl, Fb⟩ := un_sl h69
 obtain ⟨rfl, Rb⟩ := h70
 refine Rg_op rfl (op_move (v := (Value.tuple [(Value.slice Ab value_1.1.length Cb), (Value.int .i64 value_1.2)].toArray)) rfl ?_)
 refine Rg_op rfl (op_extract (v := (Value.slice Ab value_1.1.length Cb)) rfl rfl ?_)
 refine Rg_op rfl (op_extract (v := (Value.int .i64 value_1.2)) rfl rfl ?_)
 refine Rg_op rfl (op_assign (v := (Value.slice Ab value_1.1.length Cb)) rfl ?_)
 refine Rg_op rfl (op_assign (v := (Value.int .i64 value_1.2)) rfl ?_)
 refine Rg_nil (Wp_seq (Wp_region ?_))
 refine Rg_op rfl (op_loadA (cs := [(Value.int .i64 3), (Value.slice (some ⟨b1, 0, none⟩) [0, 1].length 2), (Value.slice (some ⟨b25, 0, none⟩) [[9, 2, (-1)], [4, 8, 30]].length 2)]) (vs := [(Value.int .i64 3), (Value.slice (some ⟨b1, 0, none⟩) [0, 1].length 2), (Value.slice (some ⟨b25, 0, none⟩) [[9, 2, (-1)], [4, 8, 30]].length 2)]) (i := 0) ty25 hs65 rfl rfl rfl rfl ?_)
 refine Rg_op rfl (op_move (v := (Value.slice Aa best_1.1.length Ca)) rfl ?_)
 replace hm := bd hm; obtain ⟨cycles_1, hv73, hm⟩ := hm
 refine Rg_op rfl (op_call Try.call14 (c14_clearing_Cycles (r_ := (⟨3, [0, 1], [[9, 2, (-1)], [4, 8, 30]]⟩ : XRound)) (slots := best_1.1) hs65.ltw (show InK .i64 3 from by decide) f41 f44 Fa hv73) rfl ?_)
 rintro v74 w75 ⟨hx76, h77⟩
 have hs78 := hs65.call hx76
 have p79 := Step.ext (O := ks [(some b33, Obj.cells [(Value.int .i64 3), (Value.slice (some ⟨b1, 0, none⟩) [0, 1].length 2), (Value.slice (some ⟨b25, 0, none⟩) [[9, 2, (-1)], [4, 8, 30]].length 2)].toArray 25)] O) hx76
 clear hx76
 replace f41 := f41.step p79; replace f44 := f44.step p79; replace Fa := Fa.step p79; replace Fb := Fb.step p79; clear p79 hs65
 obtain ⟨v80, v81, rfl, h82, h83⟩ := h77
 obtain ⟨Ac, Cc, rfl, Fc⟩ := un_sl h82
 obtain ⟨rfl, Rc⟩ := h83
 refine Rg_op rfl (op_move (v := (Value.tuple [(Value.slice Ac cycles_1.1.length Cc), (Value.int .i64 cycles_1.2)].toArray)) rfl ?_)
 refine Rg_op rfl (op_extract (v := (Value.slice Ac cycles_1.1.length Cc)) rfl rfl ?_)
 refine Rg_op rfl (op_extract (v := (Value.int .i64 cycles_1.2)) rfl rfl ?_)
 refine Rg_op rfl (op_assign (v := (Value.slice Ac cycles_1.1.length Cc)) rfl ?_)
 refine Rg_op rfl (op_assign (v := (Value.int .i64 cycles_1.2)) rfl ?_)
 refine Rg_nil (Wp_seq ?_)
 refine Wp_reset [] [(1, (Value.pointer (some ⟨b33, 0, none⟩))), (2, (Value.slice Aa best_1.1.length Ca)), (3, (Value.int .i64 best_1.2)), (4, (Value.slice Ab value_1.1.length Cb)), (5, (Value.int .i64 value_1.2)), (6, (Value.slice Ac cycles_1.1.length Cc)), (7, (Value.int .i64 cycles_1.2))] rfl ⟨rfl, rfl, rfl, rfl, rfl, rfl, rfl, trivial⟩ fun ξ86 => ?_
 refine Wp_region ?_
 refine Rg_op rfl (op_loadA (cs := [(Value.int .i64 3), (Value.slice (some ⟨b1, 0, none⟩) [0, 1].length 2), (Value.slice (some ⟨b25, 0, none⟩) [[9, 2, (-1)], [4, 8, 30]].length 2)]) (vs := [(Value.int .i64 3), (Value.slice (some ⟨b1, 0, none⟩) [0, 1].length 2), (Value.slice (some ⟨b25, 0, none⟩) [[9, 2, (-1)], [4, 8, 30]].length 2)]) (i := 0) ty25 hs78 rfl rfl rfl rfl ?_)
 refine Rg_op rfl (op_buildSlice (cs := [(Value.int .i64 1), (Value.int .i64 2)]) (parts := [(0, .const (.int .i64 1)), (1, .const (.int .i64 2))]) ty22 ty3 hs78 (by decide) rfl ?_)
 intro b87 w88 hx91 p89 hs90
 replace f41 := f41.step p89; replace f44 := f44.step p89; replace Fa := Fa.step p89; replace Fb := Fb.step p89; replace Fc := Fc.step p89; clear p89 hs78
 obtain ⟨hs94, p95, f93⟩ := St.publish (i := 0) (o := 0) (c := 2) (xs := [1, 2]) hs90 rfl (show Els (rInt .i64) _ _ [(Value.int .i64 1), (Value.int .i64 2)] [1, 2] from ⟨_, _, rfl, (mk_int (show InK .i64 1 from by decide)), ⟨_, _, rfl, (mk_int (show InK .i64 2 from by decide)), Els.nil⟩⟩) (le_lit rfl) (le_lit rfl) (le_lit rfl)
 replace f41 := f41.step p95; replace f44 := f44.step p95; replace Fa := Fa.step p95; replace Fb := Fb.step p95; replace Fc := Fc.step p95; clear p95 hs90
 replace hm := bd hm; obtain ⟨cycles_2, hv96, hm⟩ := hm
 refine Rg_op rfl (op_call Try.call14 (c14_clearing_Cycles (r_ := (⟨3, [0, 1], [[9, 2, (-1)], [4, 8, 30]]⟩ : XRound)) (slots := [1, 2]) hs94.ltw (show InK .i64 3 from by decide) f41 f44 f93 hv96) rfl ?_)
 rintro v97 w98 ⟨hx99, h100⟩
 have hs101 := hs94.call hx99
 have p102 := Step.ext (O := ks [(some b33, Obj.cells [(Value.int .i64 3), (Value.slice (some ⟨b1, 0, none⟩) [0, 1].length 2), (Value.slice (some ⟨b25, 0, none⟩) [[9, 2, (-1)], [4, 8, 30]].length 2)].toArray 25)] O) hx99
 clear hx99
 replace f41 := f41.step p102; replace f44 := f44.step p102; replace Fa := Fa.step p102; replace Fb := Fb.step p102; replace Fc := Fc.step p102; replace f93 := f93.step p102; clear p102 hs94
 obtain ⟨v103, v104, rfl, h105, h106⟩ := h100
 obtain ⟨Ad, Cd, rfl, Fd⟩ := un_sl h105
 obtain ⟨rfl, Rd⟩ := h106
 refine Rg_op rfl (op_move (v := (Value.tuple [(Value.slice Ad cycles_2.1.length Cd), (Value.int .i64 cycles_2.2)].toArray)) rfl ?_)
 refine Rg_op rfl (op_extract (v := (Value.slice Ad cycles_2.1.length Cd)) rfl rfl ?_)
 refine Rg_op rfl (op_extract (v := (Value.int .i64 cycles_2.2)) rfl rfl ?_)
 refine Rg_op rfl (op_assign (v := (Value.slice Ad cycles_2.1.length Cd)) rfl ?_)
 refine Rg_op rfl (op_assign (v := (Value.int .i64 cycles_2.2)) rfl ?_)
 refine Rg_nil (Wp_seq ?_)
 clear f93
 refine Wp_region ?_
 refine Rg_op rfl (op_loadA (cs := [(Value.int .i64 3), (Value.slice (some ⟨b1, 0, none⟩) [0, 1].length 2), (Value.slice (some ⟨b25, 0, none⟩) [[9, 2, (-1)], [4, 8, 30]].length 2)]) (vs := [(Value.int .i64 3), (Value.slice (some ⟨b1, 0, none⟩) [0, 1].length 2), (Value.slice (some ⟨b25, 0, none⟩) [[9, 2, (-1)], [4, 8, 30]].length 2)]) (i := 0) ty25 hs101 rfl rfl rfl rfl ?_)
 refine Rg_op rfl (op_buildSlice (cs := [(Value.int .i64 0), (Value.int .i64 1)]) (parts := [(0, .const (.int .i64 0)), (1, .const (.int .i64 1))]) ty22 ty3 hs101 (by decide) rfl ?_)
 intro b109 w110 hx113 p111 hs112
 replace f41 := f41.step p111; replace f44 := f44.step p111; replace Fa := Fa.step p111; replace Fb := Fb.step p111; replace Fc := Fc.step p111; replace Fd := Fd.step p111; clear p111 hs101
 obtain ⟨hs116, p117, f115⟩ := St.publish (i := 0) (o := 0) (c := 2) (xs := [0, 1]) hs112 rfl (show Els (rInt .i64) _ _ [(Value.int .i64 0), (Value.int .i64 1)] [0, 1] from ⟨_, _, rfl, (mk_int (show InK .i64 0 from by decide)), ⟨_, _, rfl, (mk_int (show InK .i64 1 from by decide)), Els.nil⟩⟩) (le_lit rfl) (le_lit rfl) (le_lit rfl)
 replace f41 := f41.step p117; replace f44 := f44.step p117; replace Fa := Fa.step p117; replace Fb := Fb.step p117; replace Fc := Fc.step p117; replace Fd := Fd.step p117; clear p117 hs112
 replace hm := bd hm; obtain ⟨cycles_3, hv118, hm⟩ := hm
 refine Rg_op rfl (op_call Try.call14 (c14_clearing_Cycles (r_ := (⟨3, [0, 1], [[9, 2, (-1)], [4, 8, 30]]⟩ : XRound)) (slots := [0, 1]) hs116.ltw (show InK .i64 3 from by decide) f41 f44 f115 hv118) rfl ?_)
 rintro v119 w120 ⟨hx121, h122⟩
 have hs123 := hs116.call hx121
 have p124 := Step.ext (O := ks [(some b33, Obj.cells [(Value.int .i64 3), (Value.slice (some ⟨b1, 0, none⟩) [0, 1].length 2), (Value.slice (some ⟨b25, 0, none⟩) [[9, 2, (-1)], [4, 8, 30]].length 2)].toArray 25)] O) hx121
 clear hx121
 replace f41 := f41.step p124; replace f44 := f44.step p124; replace Fa := Fa.step p124; replace Fb := Fb.step p124; replace Fc := Fc.step p124; replace Fd := Fd.step p124; replace f115 := f115.step p124; clear p124 hs116
 obtain ⟨v125, v126, rfl, h127, h128⟩ := h122
 obtain ⟨Ae, Ce, rfl, Fe⟩ := un_sl h127
 obtain ⟨rfl, Re⟩ := h128
 refine Rg_op rfl (op_move (v := (Value.tuple [(Value.slice Ae cycles_3.1.length Ce), (Value.int .i64 cycles_3.2)].toArray)) rfl ?_)
 refine Rg_op rfl (op_extract (v := (Value.slice Ae cycles_3.1.length Ce)) rfl rfl ?_)
 refine Rg_op rfl (op_extract (v := (Value.int .i64 cycles_3.2)) rfl rfl ?_)
 refine Rg_op rfl (op_assign (v := (Value.slice Ae cycles_3.1.length Ce)) rfl ?_)
 refine Rg_op rfl (op_assign (v := (Value.int .i64 cycles_3.2)) rfl ?_)
 refine Rg_nil (Wp_seq ?_)
 clear f115
 refine Wp_region ?_
 refine Rg_op rfl (op_build (vs := [(Value.int .i64 1), (Value.slice none 0 0), (Value.slice none 0 0)]) (parts := [(0, .const (.int .i64 1))]) ty25 pl25 rfl ?_)
 replace hm := bd hm; obtain ⟨best_2, hv131, hm⟩ := hm
 refine Rg_op rfl (op_call Try.call18 (c18_clearing_Best (r_ := (⟨1, ([] : List Int), ([] : List (List Int))⟩ : XRound)) hs123.ltw (show InK .i64 1 from by decide) SlR.nil_ SlR.nil_ hv131) rfl ?_)
 rintro v132 w133 ⟨hx134, h135⟩
 have hs136 := hs123.call hx134
 have p137 := Step.ext (O := ks [(some b33, Obj.cells [(Value.int .i64 3), (Value.slice (some ⟨b1, 0, none⟩) [0, 1].length 2), (Value.slice (some ⟨b25, 0, none⟩) [[9, 2, (-1)], [4, 8, 30]].length 2)].toArray 25)] O) hx134
 clear hx134
 replace f41 := f41.step p137; replace f44 := f44.step p137; replace Fa := Fa.step p137; replace Fb := Fb.step p137; replace Fc := Fc.step p137; replace Fd := Fd.step p137; replace Fe := Fe.step p137; clear p137 hs123
 obtain ⟨v138, v139, rfl, h140, h141⟩ := h135
 obtain ⟨Af, Cf, rfl, Ff⟩ := un_sl h140
 obtain ⟨rfl, Rf⟩ := h141
 refine Rg_op rfl (op_move (v := (Value.tuple [(Value.slice Af best_2.1.length Cf), (Value.int .i64 best_2.2)].toArray)) rfl ?_)
 refine Rg_op rfl (op_extract (v := (Value.slice Af best_2.1.length Cf)) rfl rfl ?_)
 refine Rg_op rfl (op_extract (v := (Value.int .i64 best_2.2)) rfl rfl ?_)
 refine Rg_op rfl (op_assign (v := (Value.slice Af best_2.1.length Cf)) rfl ?_)
 refine Rg_op rfl (op_assign (v := (Value.int .i64 best_2.2)) rfl ?_)
 refine Rg_nil (Wp_seq (Wp_region ?_))
 refine Rg_op rfl (op_build (vs := [(Value.int .i64 0), (Value.slice none 0 0), (Value.slice none 0 0)]) (parts := []) ty25 pl25 rfl ?_)
 replace hm := bd hm; obtain ⟨best_3, hv144, hm⟩ := hm
 refine Rg_op rfl (op_call Try.call18 (c18_clearing_Best (r_ := (⟨0, ([] : List Int), ([] : List (List Int))⟩ : XRound)) hs136.ltw (show InK .i64 0 from by decide) SlR.nil_ SlR.nil_ hv144) rfl ?_)
 rintro v145 w146 ⟨hx147, h148⟩
 have hs149 := hs136.call hx147
 have p150 := Step.ext (O := ks [(some b33, Obj.cells [(Value.int .i64 3), (Value.slice (some ⟨b1, 0, none⟩) [0, 1].length 2), (Value.slice (some ⟨b25, 0, none⟩) [[9, 2, (-1)], [4, 8, 30]].length 2)].toArray 25)] O) hx147
 clear hx147
 replace f41 := f41.step p150; replace f44 := f44.step p150; replace Fa := Fa.step p150; replace Fb := Fb.step p150; replace Fc := Fc.step p150; replace Fd := Fd.step p150; replace Fe := Fe.step p150; replace Ff := Ff.step p150; clear p150 hs136
 obtain ⟨v151, v152, rfl, h153, h154⟩ := h148
 obtain ⟨Ag, Cg, rfl, Fg⟩ := un_sl h153
 obtain ⟨rfl, Rg⟩ := h154
 refine Rg_op rfl (op_move (v := (Value.tuple [(Value.slice Ag best_3.1.length Cg), (Value.int .i64 best_3.2)].toArray)) rfl ?_)
 refine Rg_op rfl (op_extract (v := (Value.slice Ag best_3.1.length Cg)) rfl rfl ?_)
 refine Rg_op rfl (op_extract (v := (Value.int .i64 best_3.2)) rfl rfl ?_)
 refine Rg_op rfl (op_assign (v := (Value.slice Ag best_3.1.length Cg)) rfl ?_)
 refine Rg_op rfl (op_assign (v := (Value.int .i64 best_3.2)) rfl ?_)
 refine Rg_nil (Wp_seq ?_)
 clear Fg
 refine Wp_reset [] [(1, (Value.pointer (some ⟨b33, 0, none⟩))), (2, (Value.slice Aa best_1.1.length Ca)), (3, (Value.int .i64 best_1.2)), (4, (Value.slice Ab value_1.1.length Cb)), (5, (Value.int .i64 value_1.2)), (6, (Value.slice Ac cycles_1.1.length Cc)), (7, (Value.int .i64 cycles_1.2)), (8, (Value.slice Ad cycles_2.1.length Cd)), (9, (Value.int .i64 cycles_2.2)), (10, (Value.slice Ae cycles_3.1.length Ce)), (11, (Value.int .i64 cycles_3.2)), (12, (Value.slice Af best_2.1.length Cf)), (13, (Value.int .i64 best_2.2)), (15, (Value.int .i64 best_3.2))] rfl ⟨rfl, rfl, rfl, rfl, rfl, rfl, rfl, rfl, rfl, rfl, rfl, rfl, rfl, rfl, trivial⟩ fun ξ157 => ?_
 refine Wp_region ?_
 refine Rg_op rfl (op_buildSlice (cs := [(Value.int .i64 0), (Value.int .i64 1)]) (parts := [(0, .const (.int .i64 0)), (1, .const (.int .i64 1))]) ty22 ty3 hs149 (by decide) rfl ?_)
 intro b158 w159 hx162 p160 hs161
 replace f41 := f41.step p160; replace f44 := f44.step p160; replace Fa := Fa.step p160; replace Fb := Fb.step p160; replace Fc := Fc.step p160; replace Fd := Fd.step p160; replace Fe := Fe.step p160; replace Ff := Ff.step p160; clear p160 hs149
 refine Rg_op rfl (op_buildSlice (cs := [(Value.int .i64 1), (Value.int .i64 2)]) (parts := [(0, .const (.int .i64 1)), (1, .const (.int .i64 2))]) ty22 ty3 hs161 (by decide) rfl ?_)
 intro b164 w165 hx168 p166 hs167
 replace f41 := f41.step p166; replace f44 := f44.step p166; replace Fa := Fa.step p166; replace Fb := Fb.step p166; replace Fc := Fc.step p166; replace Fd := Fd.step p166; replace Fe := Fe.step p166; replace Ff := Ff.step p166; clear p166 hs161
 refine Rg_op rfl (op_buildSlice (cs := [(Value.int .i64 2), (Value.int .i64 1)]) (parts := [(0, .const (.int .i64 2)), (1, .const (.int .i64 1))]) ty22 ty3 hs167 (by decide) rfl ?_)
 intro b170 w171 hx174 p172 hs173
 replace f41 := f41.step p172; replace f44 := f44.step p172; replace Fa := Fa.step p172; replace Fb := Fb.step p172; replace Fc := Fc.step p172; replace Fd := Fd.step p172; replace Fe := Fe.step p172; replace Ff := Ff.step p172; clear p172 hs167
 obtain ⟨hs177, p178, f176⟩ := St.publish (i := 1) (o := 0) (c := 2) (xs := [1, 2]) hs173 rfl (show Els (rInt .i64) _ _ [(Value.int .i64 1), (Value.int .i64 2)] [1, 2] from ⟨_, _, rfl, (mk_int (show InK .i64 1 from by decide)), ⟨_, _, rfl, (mk_int (show InK .i64 2 from by decide)), Els.nil⟩⟩) (le_lit rfl) (le_lit rfl) (le_lit rfl)
 replace f41 := f41.step p178; replace f44 := f44.step p178; replace Fa := Fa.step p178; replace Fb := Fb.step p178; replace Fc := Fc.step p178; replace Fd := Fd.step p178; replace Fe := Fe.step p178; replace Ff := Ff.step p178; clear p178 hs173
 obtain ⟨hs180, p181, f179⟩ := St.publish (i := 0) (o := 0) (c := 2) (xs := [2, 1]) hs177 rfl (show Els (rInt .i64) _ _ [(Value.int .i64 2), (Value.int .i64 1)] [2, 1] from ⟨_, _, rfl, (mk_int (show InK .i64 2 from by decide)), ⟨_, _, rfl, (mk_int (show InK .i64 1 from by decide)), Els.nil⟩⟩) (le_lit rfl) (le_lit rfl) (le_lit rfl)
 replace f41 := f41.step p181; replace f44 := f44.step p181; replace Fa := Fa.step p181; replace Fb := Fb.step p181; replace Fc := Fc.step p181; replace Fd := Fd.step p181; replace Fe := Fe.step p181; replace Ff := Ff.step p181; replace f176 := f176.step p181; clear p181 hs177
 refine Rg_op rfl (op_buildSlice (cs := [(Value.slice (some ⟨b164, 0, none⟩) [1, 2].length 2), (Value.slice (some ⟨b170, 0, none⟩) [2, 1].length 2)]) (parts := [(0, .tmp 64), (1, .tmp 65)]) ty23 ty22 hs180 (by decide) rfl ?_)
 intro b182 w183 hx186 p184 hs185
 replace f41 := f41.step p184; replace f44 := f44.step p184; replace Fa := Fa.step p184; replace Fb := Fb.step p184; replace Fc := Fc.step p184; replace Fd := Fd.step p184; replace Fe := Fe.step p184; replace Ff := Ff.step p184; replace f176 := f176.step p184; replace f179 := f179.step p184; clear p184 hs180
 have f188 := Gs.of_cells (p := (rInt .i64)) (e := 3) (bl := b158) (c := 2) (w := w183) (O := ks [(some b182, Obj.cells [(Value.slice (some ⟨b164, 0, none⟩) [1, 2].length 2), (Value.slice (some ⟨b170, 0, none⟩) [2, 1].length 2)].toArray 22), (some b158, Obj.cells [(Value.int .i64 0), (Value.int .i64 1)].toArray 3), (some b33, Obj.cells [(Value.int .i64 3), (Value.slice (some ⟨b1, 0, none⟩) [0, 1].length 2), (Value.slice (some ⟨b25, 0, none⟩) [[9, 2, (-1)], [4, 8, 30]].length 2)].toArray 25)] O) (show Els (rInt .i64) _ _ [(Value.int .i64 0), (Value.int .i64 1)] [0, 1] from ⟨_, _, rfl, (mk_int (show InK .i64 0 from by decide)), ⟨_, _, rfl, (mk_int (show InK .i64 1 from by decide)), Els.nil⟩⟩) rfl (le_lit rfl)
 have f189 := Gs.of_cells (p := (rSl (rInt .i64))) (e := 22) (bl := b182) (c := 2) (w := w183) (O := ks [(some b182, Obj.cells [(Value.slice (some ⟨b164, 0, none⟩) [1, 2].length 2), (Value.slice (some ⟨b170, 0, none⟩) [2, 1].length 2)].toArray 22), (some b158, (Obj.cells [(Value.int .i64 0), (Value.int .i64 1)].toArray 3)), (some b33, Obj.cells [(Value.int .i64 3), (Value.slice (some ⟨b1, 0, none⟩) [0, 1].length 2), (Value.slice (some ⟨b25, 0, none⟩) [[9, 2, (-1)], [4, 8, 30]].length 2)].toArray 25)] O) (show Els (rSl (rInt .i64)) _ _ [(Value.slice (some ⟨b164, 0, none⟩) [1, 2].length 2), (Value.slice (some ⟨b170, 0, none⟩) [2, 1].length 2)] [[1, 2], [2, 1]] from ⟨_, _, rfl, (mk_sl f176), ⟨_, _, rfl, (mk_sl f179), Els.nil⟩⟩) rfl (le_lit rfl)
 refine Rg_op rfl (op_build (vs := [(Value.int .i64 2), (Value.slice (some ⟨b158, 0, none⟩) [0, 1].length 2), (Value.slice (some ⟨b182, 0, none⟩) [[1, 2], [2, 1]].length 2)]) (parts := [(0, .const (.int .i64 2)), (1, .tmp 63), (2, .tmp 66)]) ty25 pl25 rfl ?_)
 refine Rg_op rfl (op_alloc ty25 hs185 ?_)
 intro b190 w191 _ p192 hs193
 replace f41 := f41.step p192; replace f44 := f44.step p192; replace Fa := Fa.step p192; replace Fb := Fb.step p192; replace Fc := Fc.step p192; replace Fd := Fd.step p192; replace Fe := Fe.step p192; replace Ff := Ff.step p192; replace f176 := f176.step p192; replace f179 := f179.step p192; replace f188 := f188.step p192; replace f189 := f189.step p192; clear p192 hs185
 refine Rg_op_ (op_store (cs := [(Value.int .i64 0), (Value.slice none 0 0), (Value.slice none 0 0)]) (vs := [(Value.int .i64 2), (Value.slice (some ⟨b158, 0, none⟩) [0, 1].length 2), (Value.slice (some ⟨b182, 0, none⟩) [[1, 2], [2, 1]].length 2)]) (cs' := [(Value.int .i64 2), (Value.slice (some ⟨b158, 0, none⟩) [0, 1].length 2), (Value.slice (some ⟨b182, 0, none⟩) [[1, 2], [2, 1]].length 2)]) (bs' := [(some b190, Obj.cells [(Value.int .i64 2), (Value.slice (some ⟨b158, 0, none⟩) [0, 1].length 2), (Value.slice (some ⟨b182, 0, none⟩) [[1, 2], [2, 1]].length 2)].toArray 25), (some b182, (Obj.cells [(Value.slice (some ⟨b164, 0, none⟩) [1, 2].length 2), (Value.slice (some ⟨b170, 0, none⟩) [2, 1].length 2)].toArray 22)), (some b158, (Obj.cells [(Value.int .i64 0), (Value.int .i64 1)].toArray 3)), (some b33, Obj.cells [(Value.int .i64 3), (Value.slice (some ⟨b1, 0, none⟩) [0, 1].length 2), (Value.slice (some ⟨b25, 0, none⟩) [[9, 2, (-1)], [4, 8, 30]].length 2)].toArray 25)]) (i := 0) ty25 hs193 rfl rfl rfl rfl rfl (le_lit rfl) rfl rfl rfl ?_)
 intro w195 p196 hs197
 replace f41 := f41.step p196; replace f44 := f44.step p196; replace Fa := Fa.step p196; replace Fb := Fb.step p196; replace Fc := Fc.step p196; replace Fd := Fd.step p196; replace Fe := Fe.step p196; replace Ff := Ff.step p196; replace f176 := f176.step p196; replace f179 := f179.step p196; replace f188 := f188.step p196; replace f189 := f189.step p196; clear p196 hs193
 refine Rg_nil (Wp_seq ?_)
 clear f176 f179
 refine Wp_region ?_
 refine Rg_op rfl (op_loadA (cs := [(Value.int .i64 2), (Value.slice (some ⟨b158, 0, none⟩) [0, 1].length 2), (Value.slice (some ⟨b182, 0, none⟩) [[1, 2], [2, 1]].length 2)]) (vs := [(Value.int .i64 2), (Value.slice (some ⟨b158, 0, none⟩) [0, 1].length 2), (Value.slice (some ⟨b182, 0, none⟩) [[1, 2], [2, 1]].length 2)]) (i := 0) ty25 hs197 rfl rfl rfl rfl ?_)
 obtain ⟨hs199, p200, f198⟩ := Gs.publish (i := 2) hs197 rfl f188
 replace f41 := f41.step p200; replace f44 := f44.step p200; replace Fa := Fa.step p200; replace Fb := Fb.step p200; replace Fc := Fc.step p200; replace Fd := Fd.step p200; replace Fe := Fe.step p200; replace Ff := Ff.step p200; replace f189 := f189.step p200; clear p200 hs197
 obtain ⟨hs202, p203, f201⟩ := Gs.publish (i := 1) hs199 rfl f189
 replace f41 := f41.step p203; replace f44 := f44.step p203; replace Fa := Fa.step p203; replace Fb := Fb.step p203; replace Fc := Fc.step p203; replace Fd := Fd.step p203; replace Fe := Fe.step p203; replace Ff := Ff.step p203; replace f198 := f198.step p203; clear p203 hs199
 replace hm := bd hm; obtain ⟨best_4, hv204, hm⟩ := hm
 refine Rg_op rfl (op_call Try.call18 (c18_clearing_Best (r_ := (⟨2, [0, 1], [[1, 2], [2, 1]]⟩ : XRound)) hs202.ltw (show InK .i64 2 from by decide) f198 f201 hv204) rfl ?_)
 rintro v205 w206 ⟨hx207, h208⟩
 have hs209 := hs202.call hx207
 have p210 := Step.ext (O := ks [(some b190, Obj.cells [(Value.int .i64 2), (Value.slice (some ⟨b158, 0, none⟩) [0, 1].length 2), (Value.slice (some ⟨b182, 0, none⟩) [[1, 2], [2, 1]].length 2)].toArray 25), (some b33, Obj.cells [(Value.int .i64 3), (Value.slice (some ⟨b1, 0, none⟩) [0, 1].length 2), (Value.slice (some ⟨b25, 0, none⟩) [[9, 2, (-1)], [4, 8, 30]].length 2)].toArray 25)] O) hx207
 clear hx207
 replace f41 := f41.step p210; replace f44 := f44.step p210; replace Fa := Fa.step p210; replace Fb := Fb.step p210; replace Fc := Fc.step p210; replace Fd := Fd.step p210; replace Fe := Fe.step p210; replace Ff := Ff.step p210; replace f198 := f198.step p210; replace f201 := f201.step p210; clear p210 hs202
 obtain ⟨v211, v212, rfl, h213, h214⟩ := h208
 obtain ⟨Ah, Ch, rfl, Fh⟩ := un_sl h213
 obtain ⟨rfl, Rh⟩ := h214
 refine Rg_op rfl (op_move (v := (Value.tuple [(Value.slice Ah best_4.1.length Ch), (Value.int .i64 best_4.2)].toArray)) rfl ?_)
 refine Rg_op rfl (op_extract (v := (Value.slice Ah best_4.1.length Ch)) rfl rfl ?_)
 refine Rg_op rfl (op_extract (v := (Value.int .i64 best_4.2)) rfl rfl ?_)
 refine Rg_op rfl (op_assign (v := (Value.slice Ah best_4.1.length Ch)) rfl ?_)
 refine Rg_op rfl (op_assign (v := (Value.int .i64 best_4.2)) rfl ?_)
 refine Rg_nil ?_
 refine Wp_reset [] [(1, (Value.pointer (some ⟨b33, 0, none⟩))), (2, (Value.slice Aa best_1.1.length Ca)), (3, (Value.int .i64 best_1.2)), (4, (Value.slice Ab value_1.1.length Cb)), (5, (Value.int .i64 value_1.2)), (6, (Value.slice Ac cycles_1.1.length Cc)), (7, (Value.int .i64 cycles_1.2)), (8, (Value.slice Ad cycles_2.1.length Cd)), (9, (Value.int .i64 cycles_2.2)), (10, (Value.slice Ae cycles_3.1.length Ce)), (11, (Value.int .i64 cycles_3.2)), (12, (Value.slice Af best_2.1.length Cf)), (13, (Value.int .i64 best_2.2)), (15, (Value.int .i64 best_3.2)), (17, (Value.slice Ah best_4.1.length Ch)), (18, (Value.int .i64 best_4.2))] rfl ⟨rfl, rfl, rfl, rfl, rfl, rfl, rfl, rfl, rfl, rfl, rfl, rfl, rfl, rfl, rfl, rfl, trivial⟩ fun ξ217 => ?_
 replace hm := jn_elim hm; obtain ⟨k219, hk220, hm⟩ := hm
 refine Wp_seqJ [0, 73, 74, 75, 76, 77, 78, 79, 80, 81, 82, 83, 84, 85, 86, 87, 88, 89, 90, 91, 92, 93, 94, 95, 96, 97, 98, 99, 100, 101, 102, 103, 104, 105, 106, 107, 108, 109, 110, 111, 112, 113, 114, 115, 116, 117, 118, 119, 120, 121, 122, 123, 124, 125, 126, 127, 128, 129, 130, 131, 132, 133, 134, 135, 136, 137, 138, 139, 140, 141, 142, 143, 144, 145, 146, 147, 148, 149, 150, 151, 152, 153, 154, 155, 156, 157] (fun fr w' => ∃ (v_1 : Bool) (Ebs : Ents), Ebs = [(some b190, Obj.cells [(Value.int .i64 2), (Value.slice (some ⟨b158, 0, none⟩) [0, 1].length 2), (Value.slice (some ⟨b182, 0, none⟩) [[1, 2], [2, 1]].length 2)].toArray 25), (some b33, Obj.cells [(Value.int .i64 3), (Value.slice (some ⟨b1, 0, none⟩) [0, 1].length 2), (Value.slice (some ⟨b25, 0, none⟩) [[9, 2, (-1)], [4, 8, 30]].length 2)].toArray 25)] ∧ fr [] [(0, (Value.bool v_1))] ∧ Step (ks [(some b190, Obj.cells [(Value.int .i64 2), (Value.slice (some ⟨b158, 0, none⟩) [0, 1].length 2), (Value.slice (some ⟨b182, 0, none⟩) [[1, 2], [2, 1]].length 2)].toArray 25), (some b33, Obj.cells [(Value.int .i64 3), (Value.slice (some ⟨b1, 0, none⟩) [0, 1].length 2), (Value.slice (some ⟨b25, 0, none⟩) [[9, 2, (-1)], [4, 8, 30]].length 2)].toArray 25)] O) w206 (ks Ebs O) w' ∧ St ⟨w, [], []⟩ O w' Ebs ∧ k219 v_1 = some x) ?_ ?_
 rintro ρ226 w222 ⟨v_1, Ebs, hEbs, hfr225, hst224, hs223, hm⟩
 replace hm := jnE1 hk220 hm
 subst hEbs; rw [hfr225.eq]; clear hfr225
 replace f41 := f41.step hst224; replace f44 := f44.step hst224; replace Fa := Fa.step hst224; replace Fb := Fb.step hst224; replace Fc := Fc.step hst224; replace Fd := Fd.step hst224; replace Fe := Fe.step hst224; replace Ff := Ff.step hst224; replace f198 := f198.step hst224; replace f201 := f201.step hst224; replace Fh := Fh.step hst224; clear hst224 hs209
 refine Wp_ret ?_
 have hz := step_all hs223
 replace f41 := f41.step hz; replace f44 := f44.step hz; replace Fa := Fa.step hz; replace Fb := Fb.step hz; replace Fc := Fc.step hz; replace Fd := Fd.step hz; replace Fe := Fe.step hz; replace Ff := Ff.step hz; replace f198 := f198.step hz; replace f201 := f201.step hz; replace Fh := Fh.step hz
 refine ⟨_, (show Closes [] _ _ from rfl), [(Value.bool v_1)], ⟨rfl, trivial⟩, hs223.ext, ?_⟩
 exact Vr.eq (a := vB) (x := v_1) rfl (Option.some.inj hm)
 intro K221 hK221
 have ch227 := Step.refl (ks [(some b190, Obj.cells [(Value.int .i64 2), (Value.slice (some ⟨b158, 0, none⟩) [0, 1].length 2), (Value.slice (some ⟨b182, 0, none⟩) [[1, 2], [2, 1]].length 2)].toArray 25), (some b33, Obj.cells [(Value.int .i64 3), (Value.slice (some ⟨b1, 0, none⟩) [0, 1].length 2), (Value.slice (some ⟨b25, 0, none⟩) [[9, 2, (-1)], [4, 8, 30]].length 2)].toArray 25)] O) w206
 refine Wp_region ?_
 refine Rg_op rfl (op_move (v := (Value.int .i64 best_1.2)) rfl ?_)
 refine Rg_op rfl (op_eql rfl rfl ?_)
 refine Rg_op rfl (op_move (v := (Value.bool (decide (best_1.2 = 0)))) rfl ?_)
 refine Rg_case (fun hg228 => ?_) (fun hg228 => ?_)
 replace hm := bif_t hm hg228
 refine Rg_opg rfl rfl rfl (op_move (v := (Value.slice Aa best_1.1.length Ca)) rfl ?_)
 refine Rg_opg rfl rfl rfl (op_buildSlice (cs := [(Value.int .i64 1), (Value.int .i64 0)]) (parts := [(0, .const (.int .i64 1)), (1, .const (.int .i64 0))]) ty22 ty3 hs209 (by decide) rfl ?_)
 intro b229 w230 hx233 p231 hs232
 replace f41 := f41.step p231; replace f44 := f44.step p231; replace Fa := Fa.step p231; replace Fb := Fb.step p231; replace Fc := Fc.step p231; replace Fd := Fd.step p231; replace Fe := Fe.step p231; replace Ff := Ff.step p231; replace f198 := f198.step p231; replace f201 := f201.step p231; replace Fh := Fh.step p231; replace ch227 := ch227.trans p231; clear p231 hs209
 obtain ⟨hs236, p237, f235⟩ := St.publish (i := 0) (o := 0) (c := 2) (xs := [1, 0]) hs232 rfl (show Els (rInt .i64) _ _ [(Value.int .i64 1), (Value.int .i64 0)] [1, 0] from ⟨_, _, rfl, (mk_int (show InK .i64 1 from by decide)), ⟨_, _, rfl, (mk_int (show InK .i64 0 from by decide)), Els.nil⟩⟩) (le_lit rfl) (le_lit rfl) (le_lit rfl)
 replace f41 := f41.step p237; replace f44 := f44.step p237; replace Fa := Fa.step p237; replace Fb := Fb.step p237; replace Fc := Fc.step p237; replace Fd := Fd.step p237; replace Fe := Fe.step p237; replace Ff := Ff.step p237; replace f198 := f198.step p237; replace f201 := f201.step p237; replace Fh := Fh.step p237; replace ch227 := ch227.trans p237; clear p237 hs232
 replace hm := bd hm; obtain ⟨sameints_1, hv238, hm⟩ := hm
 refine Rg_opg rfl rfl rfl (op_call Try.call16 (c16_overflightref37_SameInts (a := best_1.1) (b := [1, 0]) hs236.ltw Fa f235 hv238) rfl ?_)
 rintro v239 w240 ⟨hx241, h242⟩
 have hs243 := hs236.call hx241
 have p244 := Step.ext (O := ks [(some b190, Obj.cells [(Value.int .i64 2), (Value.slice (some ⟨b158, 0, none⟩) [0, 1].length 2), (Value.slice (some ⟨b182, 0, none⟩) [[1, 2], [2, 1]].length 2)].toArray 25), (some b33, Obj.cells [(Value.int .i64 3), (Value.slice (some ⟨b1, 0, none⟩) [0, 1].length 2), (Value.slice (some ⟨b25, 0, none⟩) [[9, 2, (-1)], [4, 8, 30]].length 2)].toArray 25)] O) hx241
 clear hx241
 replace f41 := f41.step p244; replace f44 := f44.step p244; replace Fa := Fa.step p244; replace Fb := Fb.step p244; replace Fc := Fc.step p244; replace Fd := Fd.step p244; replace Fe := Fe.step p244; replace Ff := Ff.step p244; replace f198 := f198.step p244; replace f201 := f201.step p244; replace Fh := Fh.step p244; replace f235 := f235.step p244; replace ch227 := ch227.trans p244; clear p244 hs236
 obtain rfl := h242
 refine Rg_op rfl (op_pick_t (v := (Value.bool sameints_1)) rfl rfl ?_)
 refine Rg_op rfl (op_move (v := (Value.bool sameints_1)) rfl ?_)
 refine Rg_case (fun hg246 => ?_) (fun hg246 => ?_)
 replace hm := bif_t hm hg246
 refine Rg_opg rfl rfl rfl (op_move (v := (Value.int .i64 value_1.2)) rfl ?_)
 refine Rg_opg rfl rfl rfl (op_eql rfl rfl ?_)
 refine Rg_op rfl (op_pick_t (v := (Value.bool (decide (value_1.2 = 0)))) rfl rfl ?_)
 refine Rg_op rfl (op_move (v := (Value.bool (decide (value_1.2 = 0)))) rfl ?_)
 refine Rg_case (fun hg247 => ?_) (fun hg247 => ?_)
 replace hm := bif_t hm hg247
 refine Rg_opg rfl rfl rfl (op_move (v := (Value.slice Ab value_1.1.length Cb)) rfl ?_)
 refine Rg_opg rfl rfl rfl (op_buildSlice (cs := [(Value.int .i64 6), (Value.int .i64 2)]) (parts := [(0, .const (.int .i64 6)), (1, .const (.int .i64 2))]) ty22 ty3 hs243 (by decide) rfl ?_)
 intro b248 w249 hx252 p250 hs251
 replace f41 := f41.step p250; replace f44 := f44.step p250; replace Fa := Fa.step p250; replace Fb := Fb.step p250; replace Fc := Fc.step p250; replace Fd := Fd.step p250; replace Fe := Fe.step p250; replace Ff := Ff.step p250; replace f198 := f198.step p250; replace f201 := f201.step p250; replace Fh := Fh.step p250; replace f235 := f235.step p250; replace ch227 := ch227.trans p250; clear p250 hs243
 obtain ⟨hs255, p256, f254⟩ := St.publish (i := 0) (o := 0) (c := 2) (xs := [6, 2]) hs251 rfl (show Els (rInt .i64) _ _ [(Value.int .i64 6), (Value.int .i64 2)] [6, 2] from ⟨_, _, rfl, (mk_int (show InK .i64 6 from by decide)), ⟨_, _, rfl, (mk_int (show InK .i64 2 from by decide)), Els.nil⟩⟩) (le_lit rfl) (le_lit rfl) (le_lit rfl)
 replace f41 := f41.step p256; replace f44 := f44.step p256; replace Fa := Fa.step p256; replace Fb := Fb.step p256; replace Fc := Fc.step p256; replace Fd := Fd.step p256; replace Fe := Fe.step p256; replace Ff := Ff.step p256; replace f198 := f198.step p256; replace f201 := f201.step p256; replace Fh := Fh.step p256; replace f235 := f235.step p256; replace ch227 := ch227.trans p256; clear p256 hs251
 replace hm := bd hm; obtain ⟨sameints_2, hv257, hm⟩ := hm
 refine Rg_opg rfl rfl rfl (op_call Try.call16 (c16_overflightref37_SameInts (a := value_1.1) (b := [6, 2]) hs255.ltw Fb f254 hv257) rfl ?_)
 rintro v258 w259 ⟨hx260, h261⟩
 have hs262 := hs255.call hx260
 have p263 := Step.ext (O := ks [(some b190, Obj.cells [(Value.int .i64 2), (Value.slice (some ⟨b158, 0, none⟩) [0, 1].length 2), (Value.slice (some ⟨b182, 0, none⟩) [[1, 2], [2, 1]].length 2)].toArray 25), (some b33, Obj.cells [(Value.int .i64 3), (Value.slice (some ⟨b1, 0, none⟩) [0, 1].length 2), (Value.slice (some ⟨b25, 0, none⟩) [[9, 2, (-1)], [4, 8, 30]].length 2)].toArray 25)] O) hx260
 clear hx260
 replace f41 := f41.step p263; replace f44 := f44.step p263; replace Fa := Fa.step p263; replace Fb := Fb.step p263; replace Fc := Fc.step p263; replace Fd := Fd.step p263; replace Fe := Fe.step p263; replace Ff := Ff.step p263; replace f198 := f198.step p263; replace f201 := f201.step p263; replace Fh := Fh.step p263; replace f235 := f235.step p263; replace f254 := f254.step p263; replace ch227 := ch227.trans p263; clear p263 hs255
 obtain rfl := h261
 refine Rg_op rfl (op_pick_t (v := (Value.bool sameints_2)) rfl rfl ?_)
 refine Rg_op rfl (op_move (v := (Value.bool sameints_2)) rfl ?_)
 refine Rg_case (fun hg265 => ?_) (fun hg265 => ?_)
 replace hm := bif_t hm hg265
 refine Rg_opg rfl rfl rfl (op_move (v := (Value.int .i64 cycles_1.2)) rfl ?_)
 refine Rg_opg rfl rfl rfl (op_eql rfl rfl ?_)
 refine Rg_op rfl (op_pick_t (v := (Value.bool (decide (cycles_1.2 = 0)))) rfl rfl ?_)
 refine Rg_op rfl (op_move (v := (Value.bool (decide (cycles_1.2 = 0)))) rfl ?_)
 refine Rg_case (fun hg266 => ?_) (fun hg266 => ?_)
 replace hm := bif_t hm hg266
 refine Rg_opg rfl rfl rfl (op_move (v := (Value.slice Ac cycles_1.1.length Cc)) rfl ?_)
 refine Rg_opg rfl rfl rfl (op_buildSlice (cs := [(Value.int .i64 0), (Value.int .i64 1)]) (parts := [(0, .const (.int .i64 0)), (1, .const (.int .i64 1))]) ty22 ty3 hs262 (by decide) rfl ?_)
 intro b267 w268 hx271 p269 hs270
 replace f41 := f41.step p269; replace f44 := f44.step p269; replace Fa := Fa.step p269; replace Fb := Fb.step p269; replace Fc := Fc.step p269; replace Fd := Fd.step p269; replace Fe := Fe.step p269; replace Ff := Ff.step p269; replace f198 := f198.step p269; replace f201 := f201.step p269; replace Fh := Fh.step p269; replace f235 := f235.step p269; replace f254 := f254.step p269; replace ch227 := ch227.trans p269; clear p269 hs262
 obtain ⟨hs274, p275, f273⟩ := St.publish (i := 0) (o := 0) (c := 2) (xs := [0, 1]) hs270 rfl (show Els (rInt .i64) _ _ [(Value.int .i64 0), (Value.int .i64 1)] [0, 1] from ⟨_, _, rfl, (mk_int (show InK .i64 0 from by decide)), ⟨_, _, rfl, (mk_int (show InK .i64 1 from by decide)), Els.nil⟩⟩) (le_lit rfl) (le_lit rfl) (le_lit rfl)
 replace f41 := f41.step p275; replace f44 := f44.step p275; replace Fa := Fa.step p275; replace Fb := Fb.step p275; replace Fc := Fc.step p275; replace Fd := Fd.step p275; replace Fe := Fe.step p275; replace Ff := Ff.step p275; replace f198 := f198.step p275; replace f201 := f201.step p275; replace Fh := Fh.step p275; replace f235 := f235.step p275; replace f254 := f254.step p275; replace ch227 := ch227.trans p275; clear p275 hs270
 refine Rg_opg rfl rfl rfl (op_buildSlice (cs := [(Value.slice (some ⟨b267, 0, none⟩) [0, 1].length 2)]) (parts := [(0, .tmp 95)]) ty23 ty22 hs274 (by decide) rfl ?_)
 intro b276 w277 hx280 p278 hs279
 replace f41 := f41.step p278; replace f44 := f44.step p278; replace Fa := Fa.step p278; replace Fb := Fb.step p278; replace Fc := Fc.step p278; replace Fd := Fd.step p278; replace Fe := Fe.step p278; replace Ff := Ff.step p278; replace f198 := f198.step p278; replace f201 := f201.step p278; replace Fh := Fh.step p278; replace f235 := f235.step p278; replace f254 := f254.step p278; replace f273 := f273.step p278; replace ch227 := ch227.trans p278; clear p278 hs274
 obtain ⟨hs283, p284, f282⟩ := St.publish (i := 0) (o := 0) (c := 1) (xs := [[0, 1]]) hs279 rfl (show Els (rSl (rInt .i64)) _ _ [(Value.slice (some ⟨b267, 0, none⟩) [0, 1].length 2)] [[0, 1]] from ⟨_, _, rfl, (mk_sl f273), Els.nil⟩) (le_lit rfl) (le_lit rfl) (le_lit rfl)
 replace f41 := f41.step p284; replace f44 := f44.step p284; replace Fa := Fa.step p284; replace Fb := Fb.step p284; replace Fc := Fc.step p284; replace Fd := Fd.step p284; replace Fe := Fe.step p284; replace Ff := Ff.step p284; replace f198 := f198.step p284; replace f201 := f201.step p284; replace Fh := Fh.step p284; replace f235 := f235.step p284; replace f254 := f254.step p284; replace f273 := f273.step p284; replace ch227 := ch227.trans p284; clear p284 hs279
 replace hm := bd hm; obtain ⟨samelists_1, hv285, hm⟩ := hm
 refine Rg_opg rfl rfl rfl (op_call Try.call17 (c17_overflightref38_SameLists (a := cycles_1.1) (b := [[0, 1]]) hs283.ltw Fc f282 hv285) rfl ?_)
 rintro v286 w287 ⟨hx288, h289⟩
 have hs290 := hs283.call hx288
 have p291 := Step.ext (O := ks [(some b190, Obj.cells [(Value.int .i64 2), (Value.slice (some ⟨b158, 0, none⟩) [0, 1].length 2), (Value.slice (some ⟨b182, 0, none⟩) [[1, 2], [2, 1]].length 2)].toArray 25), (some b33, Obj.cells [(Value.int .i64 3), (Value.slice (some ⟨b1, 0, none⟩) [0, 1].length 2), (Value.slice (some ⟨b25, 0, none⟩) [[9, 2, (-1)], [4, 8, 30]].length 2)].toArray 25)] O) hx288
 clear hx288
 replace f41 := f41.step p291; replace f44 := f44.step p291; replace Fa := Fa.step p291; replace Fb := Fb.step p291; replace Fc := Fc.step p291; replace Fd := Fd.step p291; replace Fe := Fe.step p291; replace Ff := Ff.step p291; replace f198 := f198.step p291; replace f201 := f201.step p291; replace Fh := Fh.step p291; replace f235 := f235.step p291; replace f254 := f254.step p291; replace f273 := f273.step p291; replace f282 := f282.step p291; replace ch227 := ch227.trans p291; clear p291 hs283
 obtain rfl := h289
 refine Rg_op rfl (op_pick_t (v := (Value.bool samelists_1)) rfl rfl ?_)
 refine Rg_op rfl (op_move (v := (Value.bool samelists_1)) rfl ?_)
 refine Rg_case (fun hg293 => ?_) (fun hg293 => ?_)
 replace hm := bif_t hm hg293
 refine Rg_opg rfl rfl rfl (op_move (v := (Value.int .i64 cycles_2.2)) rfl ?_)
 refine Rg_opg rfl rfl rfl (op_eql rfl rfl ?_)
 refine Rg_op rfl (op_pick_t (v := (Value.bool (decide (cycles_2.2 = 0)))) rfl rfl ?_)
 refine Rg_op rfl (op_move (v := (Value.bool (decide (cycles_2.2 = 0)))) rfl ?_)
 refine Rg_case (fun hg294 => ?_) (fun hg294 => ?_)
 replace hm := bif_t hm hg294
 refine Rg_opg rfl rfl rfl (op_move (v := (Value.slice Ad cycles_2.1.length Cd)) rfl ?_)
 refine Rg_opg rfl rfl rfl (op_buildSlice (cs := [(Value.int .i64 1), (Value.int .i64 0)]) (parts := [(0, .const (.int .i64 1)), (1, .const (.int .i64 0))]) ty22 ty3 hs290 (by decide) rfl ?_)
 intro b295 w296 hx299 p297 hs298
 replace f41 := f41.step p297; replace f44 := f44.step p297; replace Fa := Fa.step p297; replace Fb := Fb.step p297; replace Fc := Fc.step p297; replace Fd := Fd.step p297; replace Fe := Fe.step p297; replace Ff := Ff.step p297; replace f198 := f198.step p297; replace f201 := f201.step p297; replace Fh := Fh.step p297; replace f235 := f235.step p297; replace f254 := f254.step p297; replace f273 := f273.step p297; replace f282 := f282.step p297; replace ch227 := ch227.trans p297; clear p297 hs290
 obtain ⟨hs302, p303, f301⟩ := St.publish (i := 0) (o := 0) (c := 2) (xs := [1, 0]) hs298 rfl (show Els (rInt .i64) _ _ [(Value.int .i64 1), (Value.int .i64 0)] [1, 0] from ⟨_, _, rfl, (mk_int (show InK .i64 1 from by decide)), ⟨_, _, rfl, (mk_int (show InK .i64 0 from by decide)), Els.nil⟩⟩) (le_lit rfl) (le_lit rfl) (le_lit rfl)
 replace f41 := f41.step p303; replace f44 := f44.step p303; replace Fa := Fa.step p303; replace Fb := Fb.step p303; replace Fc := Fc.step p303; replace Fd := Fd.step p303; replace Fe := Fe.step p303; replace Ff := Ff.step p303; replace f198 := f198.step p303; replace f201 := f201.step p303; replace Fh := Fh.step p303; replace f235 := f235.step p303; replace f254 := f254.step p303; replace f273 := f273.step p303; replace f282 := f282.step p303; replace ch227 := ch227.trans p303; clear p303 hs298
 refine Rg_opg rfl rfl rfl (op_buildSlice (cs := [(Value.slice (some ⟨b295, 0, none⟩) [1, 0].length 2)]) (parts := [(0, .tmp 105)]) ty23 ty22 hs302 (by decide) rfl ?_)
 intro b304 w305 hx308 p306 hs307
 replace f41 := f41.step p306; replace f44 := f44.step p306; replace Fa := Fa.step p306; replace Fb := Fb.step p306; replace Fc := Fc.step p306; replace Fd := Fd.step p306; replace Fe := Fe.step p306; replace Ff := Ff.step p306; replace f198 := f198.step p306; replace f201 := f201.step p306; replace Fh := Fh.step p306; replace f235 := f235.step p306; replace f254 := f254.step p306; replace f273 := f273.step p306; replace f282 := f282.step p306; replace f301 := f301.step p306; replace ch227 := ch227.trans p306; clear p306 hs302
 obtain ⟨hs311, p312, f310⟩ := St.publish (i := 0) (o := 0) (c := 1) (xs := [[1, 0]]) hs307 rfl (show Els (rSl (rInt .i64)) _ _ [(Value.slice (some ⟨b295, 0, none⟩) [1, 0].length 2)] [[1, 0]] from ⟨_, _, rfl, (mk_sl f301), Els.nil⟩) (le_lit rfl) (le_lit rfl) (le_lit rfl)
 replace f41 := f41.step p312; replace f44 := f44.step p312; replace Fa := Fa.step p312; replace Fb := Fb.step p312; replace Fc := Fc.step p312; replace Fd := Fd.step p312; replace Fe := Fe.step p312; replace Ff := Ff.step p312; replace f198 := f198.step p312; replace f201 := f201.step p312; replace Fh := Fh.step p312; replace f235 := f235.step p312; replace f254 := f254.step p312; replace f273 := f273.step p312; replace f282 := f282.step p312; replace f301 := f301.step p312; replace ch227 := ch227.trans p312; clear p312 hs307
 replace hm := bd hm; obtain ⟨samelists_2, hv313, hm⟩ := hm
 refine Rg_opg rfl rfl rfl (op_call Try.call17 (c17_overflightref38_SameLists (a := cycles_2.1) (b := [[1, 0]]) hs311.ltw Fd f310 hv313) rfl ?_)
 rintro v314 w315 ⟨hx316, h317⟩
 have hs318 := hs311.call hx316
 have p319 := Step.ext (O := ks [(some b190, Obj.cells [(Value.int .i64 2), (Value.slice (some ⟨b158, 0, none⟩) [0, 1].length 2), (Value.slice (some ⟨b182, 0, none⟩) [[1, 2], [2, 1]].length 2)].toArray 25), (some b33, Obj.cells [(Value.int .i64 3), (Value.slice (some ⟨b1, 0, none⟩) [0, 1].length 2), (Value.slice (some ⟨b25, 0, none⟩) [[9, 2, (-1)], [4, 8, 30]].length 2)].toArray 25)] O) hx316
 clear hx316
 replace f41 := f41.step p319; replace f44 := f44.step p319; replace Fa := Fa.step p319; replace Fb := Fb.step p319; replace Fc := Fc.step p319; replace Fd := Fd.step p319; replace Fe := Fe.step p319; replace Ff := Ff.step p319; replace f198 := f198.step p319; replace f201 := f201.step p319; replace Fh := Fh.step p319; replace f235 := f235.step p319; replace f254 := f254.step p319; replace f273 := f273.step p319; replace f282 := f282.step p319; replace f301 := f301.step p319; replace f310 := f310.step p319; replace ch227 := ch227.trans p319; clear p319 hs311
 obtain rfl := h317
 refine Rg_op rfl (op_pick_t (v := (Value.bool samelists_2)) rfl rfl ?_)
 refine Rg_op rfl (op_move (v := (Value.bool samelists_2)) rfl ?_)
 refine Rg_case (fun hg321 => ?_) (fun hg321 => ?_)
 replace hm := bif_t hm hg321
 refine Rg_opg rfl rfl rfl (op_move (v := (Value.int .i64 cycles_3.2)) rfl ?_)
 refine Rg_opg rfl rfl rfl (op_eql rfl rfl ?_)
 refine Rg_op rfl (op_pick_t (v := (Value.bool (decide (cycles_3.2 = 0)))) rfl rfl ?_)
 refine Rg_op rfl (op_move (v := (Value.bool (decide (cycles_3.2 = 0)))) rfl ?_)
 refine Rg_case (fun hg322 => ?_) (fun hg322 => ?_)
 replace hm := bif_t hm hg322
 refine Rg_opg rfl rfl rfl (op_move (v := (Value.slice Ae cycles_3.1.length Ce)) rfl ?_)
 refine Rg_opg rfl rfl rfl (op_len Try.underlying23 rfl ?_)
 have rl323 := inK_len Fe
 refine Rg_opg rfl rfl rfl (op_eql rfl rfl ?_)
 refine Rg_op rfl (op_pick_t (v := (Value.bool (decide ((cycles_3.1.length : Int) = 0)))) rfl rfl ?_)
 refine Rg_op rfl (op_move (v := (Value.bool (decide ((cycles_3.1.length : Int) = 0)))) rfl ?_)
 refine Rg_case (fun hg324 => ?_) (fun hg324 => ?_)
 replace hm := bif_t hm hg324
 refine Rg_opg rfl rfl rfl (op_move (v := (Value.int .i64 best_2.2)) rfl ?_)
 refine Rg_opg rfl rfl rfl (op_eql rfl rfl ?_)
 refine Rg_op rfl (op_pick_t (v := (Value.bool (decide (best_2.2 = 0)))) rfl rfl ?_)
 refine Rg_op rfl (op_move (v := (Value.bool (decide (best_2.2 = 0)))) rfl ?_)
 refine Rg_case (fun hg325 => ?_) (fun hg325 => ?_)
 replace hm := bif_t hm hg325
 refine Rg_opg rfl rfl rfl (op_move (v := (Value.slice Af best_2.1.length Cf)) rfl ?_)
 refine Rg_opg rfl rfl rfl (op_len Try.underlying22 rfl ?_)
 have rl326 := inK_len Ff
 refine Rg_opg rfl rfl rfl (op_eql rfl rfl ?_)
 refine Rg_op rfl (op_pick_t (v := (Value.bool (decide ((best_2.1.length : Int) = 0)))) rfl rfl ?_)
 refine Rg_op rfl (op_move (v := (Value.bool (decide ((best_2.1.length : Int) = 0)))) rfl ?_)
 refine Rg_case (fun hg327 => ?_) (fun hg327 => ?_)
 replace hm := bif_t hm hg327
 refine Rg_opg rfl rfl rfl (op_move (v := (Value.int .i64 best_3.2)) rfl ?_)
 refine Rg_opg rfl rfl rfl (op_eql rfl rfl ?_)
 refine Rg_op rfl (op_pick_t (v := (Value.bool (decide (best_3.2 = 370)))) rfl rfl ?_)
 refine Rg_op rfl (op_move (v := (Value.bool (decide (best_3.2 = 370)))) rfl ?_)
 refine Rg_case (fun hg328 => ?_) (fun hg328 => ?_)
 replace hm := bif_t hm hg328
 refine Rg_opg rfl rfl rfl (op_move (v := (Value.int .i64 best_4.2)) rfl ?_)
 refine Rg_opg rfl rfl rfl (op_eql rfl rfl ?_)
 refine Rg_op rfl (op_pick_t (v := (Value.bool (decide (best_4.2 = 0)))) rfl rfl ?_)
 refine Rg_op rfl (op_move (v := (Value.bool (decide (best_4.2 = 0)))) rfl ?_)
 refine Rg_case (fun hg329 => ?_) (fun hg329 => ?_)
 replace hm := bif_t hm hg329
 refine Rg_opg rfl rfl rfl (op_move (v := (Value.slice Ah best_4.1.length Ch)) rfl ?_)
 refine Rg_opg rfl rfl rfl (op_buildSlice (cs := [(Value.int .i64 0), (Value.int .i64 1)]) (parts := [(0, .const (.int .i64 0)), (1, .const (.int .i64 1))]) ty22 ty3 hs318 (by decide) rfl ?_)
 intro b330 w331 hx334 p332 hs333
 replace f41 := f41.step p332; replace f44 := f44.step p332; replace Fa := Fa.step p332; replace Fb := Fb.step p332; replace Fc := Fc.step p332; replace Fd := Fd.step p332; replace Fe := Fe.step p332; replace Ff := Ff.step p332; replace f198 := f198.step p332; replace f201 := f201.step p332; replace Fh := Fh.step p332; replace f235 := f235.step p332; replace f254 := f254.step p332; replace f273 := f273.step p332; replace f282 := f282.step p332; replace f301 := f301.step p332; replace f310 := f310.step p332; replace ch227 := ch227.trans p332; clear p332 hs318
 obtain ⟨hs337, p338, f336⟩ := St.publish (i := 0) (o := 0) (c := 2) (xs := [0, 1]) hs333 rfl (show Els (rInt .i64) _ _ [(Value.int .i64 0), (Value.int .i64 1)] [0, 1] from ⟨_, _, rfl, (mk_int (show InK .i64 0 from by decide)), ⟨_, _, rfl, (mk_int (show InK .i64 1 from by decide)), Els.nil⟩⟩) (le_lit rfl) (le_lit rfl) (le_lit rfl)
 replace f41 := f41.step p338; replace f44 := f44.step p338; replace Fa := Fa.step p338; replace Fb := Fb.step p338; replace Fc := Fc.step p338; replace Fd := Fd.step p338; replace Fe := Fe.step p338; replace Ff := Ff.step p338; replace f198 := f198.step p338; replace f201 := f201.step p338; replace Fh := Fh.step p338; replace f235 := f235.step p338; replace f254 := f254.step p338; replace f273 := f273.step p338; replace f282 := f282.step p338; replace f301 := f301.step p338; replace f310 := f310.step p338; replace ch227 := ch227.trans p338; clear p338 hs333
 replace hm := bd hm; obtain ⟨sameints_3, hv339, hm⟩ := hm
 refine Rg_opg rfl rfl rfl (op_call Try.call16 (c16_overflightref37_SameInts (a := best_4.1) (b := [0, 1]) hs337.ltw Fh f336 hv339) rfl ?_)
 rintro v340 w341 ⟨hx342, h343⟩
 have hs344 := hs337.call hx342
 have p345 := Step.ext (O := ks [(some b190, Obj.cells [(Value.int .i64 2), (Value.slice (some ⟨b158, 0, none⟩) [0, 1].length 2), (Value.slice (some ⟨b182, 0, none⟩) [[1, 2], [2, 1]].length 2)].toArray 25), (some b33, Obj.cells [(Value.int .i64 3), (Value.slice (some ⟨b1, 0, none⟩) [0, 1].length 2), (Value.slice (some ⟨b25, 0, none⟩) [[9, 2, (-1)], [4, 8, 30]].length 2)].toArray 25)] O) hx342
 clear hx342
 replace f41 := f41.step p345; replace f44 := f44.step p345; replace Fa := Fa.step p345; replace Fb := Fb.step p345; replace Fc := Fc.step p345; replace Fd := Fd.step p345; replace Fe := Fe.step p345; replace Ff := Ff.step p345; replace f198 := f198.step p345; replace f201 := f201.step p345; replace Fh := Fh.step p345; replace f235 := f235.step p345; replace f254 := f254.step p345; replace f273 := f273.step p345; replace f282 := f282.step p345; replace f301 := f301.step p345; replace f310 := f310.step p345; replace f336 := f336.step p345; replace ch227 := ch227.trans p345; clear p345 hs337
 obtain rfl := h343
 refine Rg_op rfl (op_pick_t (v := (Value.bool sameints_3)) rfl rfl ?_)
 refine Rg_op rfl (op_move (v := (Value.bool sameints_3)) rfl ?_)
 refine Rg_case (fun hg347 => ?_) (fun hg347 => ?_)
 replace hm := bif_t hm hg347
 refine Rg_opg rfl rfl rfl (op_loadA (cs := [(Value.int .i64 3), (Value.slice (some ⟨b1, 0, none⟩) [0, 1].length 2), (Value.slice (some ⟨b25, 0, none⟩) [[9, 2, (-1)], [4, 8, 30]].length 2)]) (vs := [(Value.int .i64 3), (Value.slice (some ⟨b1, 0, none⟩) [0, 1].length 2), (Value.slice (some ⟨b25, 0, none⟩) [[9, 2, (-1)], [4, 8, 30]].length 2)]) (i := 1) ty25 hs344 rfl rfl rfl rfl ?_)
 refine Rg_opg rfl rfl rfl (op_move (v := (Value.slice Aa best_1.1.length Ca)) rfl ?_)
 replace hm := bd hm; obtain ⟨verify_1, hv348, hm⟩ := hm
 refine Rg_opg rfl rfl rfl (op_call Try.call20 (c20_clearing_Verify (r_ := (⟨3, [0, 1], [[9, 2, (-1)], [4, 8, 30]]⟩ : XRound)) (slots := best_1.1) hs344.ltw (show InK .i64 3 from by decide) f41 f44 Fa hv348) rfl ?_)
 rintro v349 w350 ⟨hx351, h352⟩
 have hs353 := hs344.call hx351
 have p354 := Step.ext (O := ks [(some b190, Obj.cells [(Value.int .i64 2), (Value.slice (some ⟨b158, 0, none⟩) [0, 1].length 2), (Value.slice (some ⟨b182, 0, none⟩) [[1, 2], [2, 1]].length 2)].toArray 25), (some b33, Obj.cells [(Value.int .i64 3), (Value.slice (some ⟨b1, 0, none⟩) [0, 1].length 2), (Value.slice (some ⟨b25, 0, none⟩) [[9, 2, (-1)], [4, 8, 30]].length 2)].toArray 25)] O) hx351
 clear hx351
 replace f41 := f41.step p354; replace f44 := f44.step p354; replace Fa := Fa.step p354; replace Fb := Fb.step p354; replace Fc := Fc.step p354; replace Fd := Fd.step p354; replace Fe := Fe.step p354; replace Ff := Ff.step p354; replace f198 := f198.step p354; replace f201 := f201.step p354; replace Fh := Fh.step p354; replace f235 := f235.step p354; replace f254 := f254.step p354; replace f273 := f273.step p354; replace f282 := f282.step p354; replace f301 := f301.step p354; replace f310 := f310.step p354; replace f336 := f336.step p354; replace ch227 := ch227.trans p354; clear p354 hs344
 obtain ⟨rfl, Ri⟩ := h352
 refine Rg_opg rfl rfl rfl (op_eql rfl rfl ?_)
 refine Rg_op rfl (op_pick_t (v := (Value.bool (decide (verify_1 = 0)))) rfl rfl ?_)
 refine Rg_op rfl (op_move (v := (Value.bool (decide (verify_1 = 0)))) rfl ?_)
 refine Rg_case (fun hg356 => ?_) (fun hg356 => ?_)
 replace hm := bif_t hm hg356
 refine Rg_opg rfl rfl rfl (op_loadA (cs := [(Value.int .i64 3), (Value.slice (some ⟨b1, 0, none⟩) [0, 1].length 2), (Value.slice (some ⟨b25, 0, none⟩) [[9, 2, (-1)], [4, 8, 30]].length 2)]) (vs := [(Value.int .i64 3), (Value.slice (some ⟨b1, 0, none⟩) [0, 1].length 2), (Value.slice (some ⟨b25, 0, none⟩) [[9, 2, (-1)], [4, 8, 30]].length 2)]) (i := 1) ty25 hs353 rfl rfl rfl rfl ?_)
 refine Rg_opg rfl rfl rfl (op_buildSlice (cs := [(Value.int .i64 0), (Value.int .i64 1)]) (parts := [(0, .const (.int .i64 0)), (1, .const (.int .i64 1))]) ty22 ty3 hs353 (by decide) rfl ?_)
 intro b357 w358 hx361 p359 hs360
 replace f41 := f41.step p359; replace f44 := f44.step p359; replace Fa := Fa.step p359; replace Fb := Fb.step p359; replace Fc := Fc.step p359; replace Fd := Fd.step p359; replace Fe := Fe.step p359; replace Ff := Ff.step p359; replace f198 := f198.step p359; replace f201 := f201.step p359; replace Fh := Fh.step p359; replace f235 := f235.step p359; replace f254 := f254.step p359; replace f273 := f273.step p359; replace f282 := f282.step p359; replace f301 := f301.step p359; replace f310 := f310.step p359; replace f336 := f336.step p359; replace ch227 := ch227.trans p359; clear p359 hs353
 obtain ⟨hs364, p365, f363⟩ := St.publish (i := 0) (o := 0) (c := 2) (xs := [0, 1]) hs360 rfl (show Els (rInt .i64) _ _ [(Value.int .i64 0), (Value.int .i64 1)] [0, 1] from ⟨_, _, rfl, (mk_int (show InK .i64 0 from by decide)), ⟨_, _, rfl, (mk_int (show InK .i64 1 from by decide)), Els.nil⟩⟩) (le_lit rfl) (le_lit rfl) (le_lit rfl)
 replace f41 := f41.step p365; replace f44 := f44.step p365; replace Fa := Fa.step p365; replace Fb := Fb.step p365; replace Fc := Fc.step p365; replace Fd := Fd.step p365; replace Fe := Fe.step p365; replace Ff := Ff.step p365; replace f198 := f198.step p365; replace f201 := f201.step p365; replace Fh := Fh.step p365; replace f235 := f235.step p365; replace f254 := f254.step p365; replace f273 := f273.step p365; replace f282 := f282.step p365; replace f301 := f301.step p365; replace f310 := f310.step p365; replace f336 := f336.step p365; replace ch227 := ch227.trans p365; clear p365 hs360
 replace hm := bd hm; obtain ⟨verify_2, hv366, hm⟩ := hm
 refine Rg_opg rfl rfl rfl (op_call Try.call20 (c20_clearing_Verify (r_ := (⟨3, [0, 1], [[9, 2, (-1)], [4, 8, 30]]⟩ : XRound)) (slots := [0, 1]) hs364.ltw (show InK .i64 3 from by decide) f41 f44 f363 hv366) rfl ?_)
 rintro v367 w368 ⟨hx369, h370⟩
 have hs371 := hs364.call hx369
 have p372 := Step.ext (O := ks [(some b190, Obj.cells [(Value.int .i64 2), (Value.slice (some ⟨b158, 0, none⟩) [0, 1].length 2), (Value.slice (some ⟨b182, 0, none⟩) [[1, 2], [2, 1]].length 2)].toArray 25), (some b33, Obj.cells [(Value.int .i64 3), (Value.slice (some ⟨b1, 0, none⟩) [0, 1].length 2), (Value.slice (some ⟨b25, 0, none⟩) [[9, 2, (-1)], [4, 8, 30]].length 2)].toArray 25)] O) hx369
 clear hx369
 replace f41 := f41.step p372; replace f44 := f44.step p372; replace Fa := Fa.step p372; replace Fb := Fb.step p372; replace Fc := Fc.step p372; replace Fd := Fd.step p372; replace Fe := Fe.step p372; replace Ff := Ff.step p372; replace f198 := f198.step p372; replace f201 := f201.step p372; replace Fh := Fh.step p372; replace f235 := f235.step p372; replace f254 := f254.step p372; replace f273 := f273.step p372; replace f282 := f282.step p372; replace f301 := f301.step p372; replace f310 := f310.step p372; replace f336 := f336.step p372; replace f363 := f363.step p372; replace ch227 := ch227.trans p372; clear p372 hs364
 obtain ⟨rfl, Rj⟩ := h370
 refine Rg_opg rfl rfl rfl (op_eql rfl rfl ?_)
 refine Rg_op rfl (op_pick_t (v := (Value.bool (decide (verify_2 = 380)))) rfl rfl ?_)
 refine Rg_op rfl (op_move (v := (Value.bool (decide (verify_2 = 380)))) rfl ?_)
 refine Rg_case (fun hg374 => ?_) (fun hg374 => ?_)
 replace hm := bif_t hm hg374
 refine Rg_opg rfl rfl rfl (op_loadA (cs := [(Value.int .i64 3), (Value.slice (some ⟨b1, 0, none⟩) [0, 1].length 2), (Value.slice (some ⟨b25, 0, none⟩) [[9, 2, (-1)], [4, 8, 30]].length 2)]) (vs := [(Value.int .i64 3), (Value.slice (some ⟨b1, 0, none⟩) [0, 1].length 2), (Value.slice (some ⟨b25, 0, none⟩) [[9, 2, (-1)], [4, 8, 30]].length 2)]) (i := 1) ty25 hs371 rfl rfl rfl rfl ?_)
 refine Rg_opg rfl rfl rfl (op_buildSlice (cs := [(Value.int .i64 1), (Value.int .i64 2)]) (parts := [(0, .const (.int .i64 1)), (1, .const (.int .i64 2))]) ty22 ty3 hs371 (by decide) rfl ?_)
 intro b375 w376 hx379 p377 hs378
 replace f41 := f41.step p377; replace f44 := f44.step p377; replace Fa := Fa.step p377; replace Fb := Fb.step p377; replace Fc := Fc.step p377; replace Fd := Fd.step p377; replace Fe := Fe.step p377; replace Ff := Ff.step p377; replace f198 := f198.step p377; replace f201 := f201.step p377; replace Fh := Fh.step p377; replace f235 := f235.step p377; replace f254 := f254.step p377; replace f273 := f273.step p377; replace f282 := f282.step p377; replace f301 := f301.step p377; replace f310 := f310.step p377; replace f336 := f336.step p377; replace f363 := f363.step p377; replace ch227 := ch227.trans p377; clear p377 hs371
 obtain ⟨hs382, p383, f381⟩ := St.publish (i := 0) (o := 0) (c := 2) (xs := [1, 2]) hs378 rfl (show Els (rInt .i64) _ _ [(Value.int .i64 1), (Value.int .i64 2)] [1, 2] from ⟨_, _, rfl, (mk_int (show InK .i64 1 from by decide)), ⟨_, _, rfl, (mk_int (show InK .i64 2 from by decide)), Els.nil⟩⟩) (le_lit rfl) (le_lit rfl) (le_lit rfl)
 replace f41 := f41.step p383; replace f44 := f44.step p383; replace Fa := Fa.step p383; replace Fb := Fb.step p383; replace Fc := Fc.step p383; replace Fd := Fd.step p383; replace Fe := Fe.step p383; replace Ff := Ff.step p383; replace f198 := f198.step p383; replace f201 := f201.step p383; replace Fh := Fh.step p383; replace f235 := f235.step p383; replace f254 := f254.step p383; replace f273 := f273.step p383; replace f282 := f282.step p383; replace f301 := f301.step p383; replace f310 := f310.step p383; replace f336 := f336.step p383; replace f363 := f363.step p383; replace ch227 := ch227.trans p383; clear p383 hs378
 replace hm := bd hm; obtain ⟨verify_3, hv384, hm⟩ := hm
 refine Rg_opg rfl rfl rfl (op_call Try.call20 (c20_clearing_Verify (r_ := (⟨3, [0, 1], [[9, 2, (-1)], [4, 8, 30]]⟩ : XRound)) (slots := [1, 2]) hs382.ltw (show InK .i64 3 from by decide) f41 f44 f381 hv384) rfl ?_)
 rintro v385 w386 ⟨hx387, h388⟩
 have hs389 := hs382.call hx387
 have p390 := Step.ext (O := ks [(some b190, Obj.cells [(Value.int .i64 2), (Value.slice (some ⟨b158, 0, none⟩) [0, 1].length 2), (Value.slice (some ⟨b182, 0, none⟩) [[1, 2], [2, 1]].length 2)].toArray 25), (some b33, Obj.cells [(Value.int .i64 3), (Value.slice (some ⟨b1, 0, none⟩) [0, 1].length 2), (Value.slice (some ⟨b25, 0, none⟩) [[9, 2, (-1)], [4, 8, 30]].length 2)].toArray 25)] O) hx387
 clear hx387
 replace f41 := f41.step p390; replace f44 := f44.step p390; replace Fa := Fa.step p390; replace Fb := Fb.step p390; replace Fc := Fc.step p390; replace Fd := Fd.step p390; replace Fe := Fe.step p390; replace Ff := Ff.step p390; replace f198 := f198.step p390; replace f201 := f201.step p390; replace Fh := Fh.step p390; replace f235 := f235.step p390; replace f254 := f254.step p390; replace f273 := f273.step p390; replace f282 := f282.step p390; replace f301 := f301.step p390; replace f310 := f310.step p390; replace f336 := f336.step p390; replace f363 := f363.step p390; replace f381 := f381.step p390; replace ch227 := ch227.trans p390; clear p390 hs382
 obtain ⟨rfl, Rk⟩ := h388
 refine Rg_opg rfl rfl rfl (op_eql rfl rfl ?_)
 refine Rg_op rfl (op_pick_t (v := (Value.bool (decide (verify_3 = 380)))) rfl rfl ?_)
 refine Rg_op rfl (op_assign (v := (Value.bool (decide (verify_3 = 380)))) rfl ?_)
 refine Rg_nil ?_
 exact hK221 _ _ ⟨(decide (verify_3 = 380)), _, rfl, ⟨(by repeat (first | with_reducible exact Out.refl _ _ | refine Out.upd ?_ rfl | refine Out.updL ?_ rfl | refine Out.mix' ?_ rfl | exact Out.refl _ _)), rfl, rfl, trivial⟩, ch227, hs389, hm⟩
 replace hm := bif_f hm hg374
 iterate 4 refine Rg_opx rfl (asB_ne rfl rfl) rfl ?_
 refine Rg_op rfl (op_pick_f (v := (Value.bool false)) rfl rfl ?_)
 refine Rg_op rfl (op_assign (v := (Value.bool false)) rfl ?_)
 refine Rg_nil ?_
 exact hK221 _ _ ⟨false, _, rfl, ⟨(by repeat (first | with_reducible exact Out.refl _ _ | refine Out.upd ?_ rfl | refine Out.updL ?_ rfl | refine Out.mix' ?_ rfl | exact Out.refl _ _)), rfl, rfl, trivial⟩, ch227, hs371, hm⟩
 replace hm := bif_f hm hg356
 iterate 4 refine Rg_opx rfl (asB_ne rfl rfl) rfl ?_
 refine Rg_op rfl (op_pick_f (v := (Value.bool false)) rfl rfl ?_)
 refine Rg_op rfl (op_move (v := (Value.bool false)) rfl ?_)
 iterate 4 refine Rg_opx rfl (asB_ne rfl rfl) rfl ?_
 refine Rg_op rfl (op_pick_f (v := (Value.bool false)) rfl rfl ?_)
 refine Rg_op rfl (op_assign (v := (Value.bool false)) rfl ?_)
 refine Rg_nil ?_
 exact hK221 _ _ ⟨false, _, rfl, ⟨(by repeat (first | with_reducible exact Out.refl _ _ | refine Out.upd ?_ rfl | refine Out.updL ?_ rfl | refine Out.mix' ?_ rfl | exact Out.refl _ _)), rfl, rfl, trivial⟩, ch227, hs353, hm⟩
 replace hm := bif_f hm hg347
 iterate 4 refine Rg_opx rfl (asB_ne rfl rfl) rfl ?_
 refine Rg_op rfl (op_pick_f (v := (Value.bool false)) rfl rfl ?_)
 refine Rg_op rfl (op_move (v := (Value.bool false)) rfl ?_)
 iterate 4 refine Rg_opx rfl (asB_ne rfl rfl) rfl ?_
 refine Rg_op rfl (op_pick_f (v := (Value.bool false)) rfl rfl ?_)
 refine Rg_op rfl (op_move (v := (Value.bool false)) rfl ?_)
 iterate 4 refine Rg_opx rfl (asB_ne rfl rfl) rfl ?_
 refine Rg_op rfl (op_pick_f (v := (Value.bool false)) rfl rfl ?_)
 refine Rg_op rfl (op_assign (v := (Value.bool false)) rfl ?_)
 refine Rg_nil ?_
 exact hK221 _ _ ⟨false, _, rfl, ⟨(by repeat (first | with_reducible exact Out.refl _ _ | refine Out.upd ?_ rfl | refine Out.updL ?_ rfl | refine Out.mix' ?_ rfl | exact Out.refl _ _)), rfl, rfl, trivial⟩, ch227, hs344, hm⟩
 replace hm := bif_f hm hg329
 iterate 3 refine Rg_opx rfl (asB_ne rfl rfl) rfl ?_
 refine Rg_op rfl (op_pick_f (v := (Value.bool false)) rfl rfl ?_)
 refine Rg_op rfl (op_move (v := (Value.bool false)) rfl ?_)
 iterate 4 refine Rg_opx rfl (asB_ne rfl rfl) rfl ?_
 refine Rg_op rfl (op_pick_f (v := (Value.bool false)) rfl rfl ?_)
 refine Rg_op rfl (op_move (v := (Value.bool false)) rfl ?_)
 iterate 4 refine Rg_opx rfl (asB_ne rfl rfl) rfl ?_
 refine Rg_op rfl (op_pick_f (v := (Value.bool false)) rfl rfl ?_)
 refine Rg_op rfl (op_move (v := (Value.bool false)) rfl ?_)
 iterate 4 refine Rg_opx rfl (asB_ne rfl rfl) rfl ?_
 refine Rg_op rfl (op_pick_f (v := (Value.bool false)) rfl rfl ?_)
 refine Rg_op rfl (op_assign (v := (Value.bool false)) rfl ?_)
 refine Rg_nil ?_
 exact hK221 _ _ ⟨false, _, rfl, ⟨(by repeat (first | with_reducible exact Out.refl _ _ | refine Out.upd ?_ rfl | refine Out.updL ?_ rfl | refine Out.mix' ?_ rfl | exact Out.refl _ _)), rfl, rfl, trivial⟩, ch227, hs318, hm⟩
 replace hm := bif_f hm hg328
 iterate 2 refine Rg_opx rfl (asB_ne rfl rfl) rfl ?_
 refine Rg_op rfl (op_pick_f (v := (Value.bool false)) rfl rfl ?_)
 refine Rg_op rfl (op_move (v := (Value.bool false)) rfl ?_)
 iterate 3 refine Rg_opx rfl (asB_ne rfl rfl) rfl ?_
 refine Rg_op rfl (op_pick_f (v := (Value.bool false)) rfl rfl ?_)
 refine Rg_op rfl (op_move (v := (Value.bool false)) rfl ?_)
 iterate 4 refine Rg_opx rfl (asB_ne rfl rfl) rfl ?_
 refine Rg_op rfl (op_pick_f (v := (Value.bool false)) rfl rfl ?_)
 refine Rg_op rfl (op_move (v := (Value.bool false)) rfl ?_)
 iterate 4 refine Rg_opx rfl (asB_ne rfl rfl) rfl ?_
 refine Rg_op rfl (op_pick_f (v := (Value.bool false)) rfl rfl ?_)
 refine Rg_op rfl (op_move (v := (Value.bool false)) rfl ?_)
 iterate 4 refine Rg_opx rfl (asB_ne rfl rfl) rfl ?_
 refine Rg_op rfl (op_pick_f (v := (Value.bool false)) rfl rfl ?_)
 refine Rg_op rfl (op_assign (v := (Value.bool false)) rfl ?_)
 refine Rg_nil ?_
 exact hK221 _ _ ⟨false, _, rfl, ⟨(by repeat (first | with_reducible exact Out.refl _ _ | refine Out.upd ?_ rfl | refine Out.updL ?_ rfl | refine Out.mix' ?_ rfl | exact Out.refl _ _)), rfl, rfl, trivial⟩, ch227, hs318, hm⟩
 replace hm := bif_f hm hg327
 iterate 2 refine Rg_opx rfl (asB_ne rfl rfl) rfl ?_
 refine Rg_op rfl (op_pick_f (v := (Value.bool false)) rfl rfl ?_)
 refine Rg_op rfl (op_move (v := (Value.bool false)) rfl ?_)
 iterate 2 refine Rg_opx rfl (asB_ne rfl rfl) rfl ?_
 refine Rg_op rfl (op_pick_f (v := (Value.bool false)) rfl rfl ?_)
 refine Rg_op rfl (op_move (v := (Value.bool false)) rfl ?_)
 iterate 3 refine Rg_opx rfl (asB_ne rfl rfl) rfl ?_
 refine Rg_op rfl (op_pick_f (v := (Value.bool false)) rfl rfl ?_)
 refine Rg_op rfl (op_move (v := (Value.bool false)) rfl ?_)
 iterate 4 refine Rg_opx rfl (asB_ne rfl rfl) rfl ?_
 refine Rg_op rfl (op_pick_f (v := (Value.bool false)) rfl rfl ?_)
 refine Rg_op rfl (op_move (v := (Value.bool false)) rfl ?_)
 iterate 4 refine Rg_opx rfl (asB_ne rfl rfl) rfl ?_
 refine Rg_op rfl (op_pick_f (v := (Value.bool false)) rfl rfl ?_)
 refine Rg_op rfl (op_move (v := (Value.bool false)) rfl ?_)
 iterate 4 refine Rg_opx rfl (asB_ne rfl rfl) rfl ?_
 refine Rg_op rfl (op_pick_f (v := (Value.bool false)) rfl rfl ?_)
 refine Rg_op rfl (op_assign (v := (Value.bool false)) rfl ?_)
 refine Rg_nil ?_
 exact hK221 _ _ ⟨false, _, rfl, ⟨(by repeat (first | with_reducible exact Out.refl _ _ | refine Out.upd ?_ rfl | refine Out.updL ?_ rfl | refine Out.mix' ?_ rfl | exact Out.refl _ _)), rfl, rfl, trivial⟩, ch227, hs318, hm⟩
 replace hm := bif_f hm hg325
 iterate 3 refine Rg_opx rfl (asB_ne rfl rfl) rfl ?_
 refine Rg_op rfl (op_pick_f (v := (Value.bool false)) rfl rfl ?_)
 refine Rg_op rfl (op_move (v := (Value.bool false)) rfl ?_)
 iterate 2 refine Rg_opx rfl (asB_ne rfl rfl) rfl ?_
 refine Rg_op rfl (op_pick_f (v := (Value.bool false)) rfl rfl ?_)
 refine Rg_op rfl (op_move (v := (Value.bool false)) rfl ?_)
 iterate 2 refine Rg_opx rfl (asB_ne rfl rfl) rfl ?_
 refine Rg_op rfl (op_pick_f (v := (Value.bool false)) rfl rfl ?_)
 refine Rg_op rfl (op_move (v := (Value.bool false)) rfl ?_)
 iterate 3 refine Rg_opx rfl (asB_ne rfl rfl) rfl ?_
 refine Rg_op rfl (op_pick_f (v := (Value.bool false)) rfl rfl ?_)
 refine Rg_op rfl (op_move (v := (Value.bool false)) rfl ?_)
 iterate 4 refine Rg_opx rfl (asB_ne rfl rfl) rfl ?_
 refine Rg_op rfl (op_pick_f (v := (Value.bool false)) rfl rfl ?_)
 refine Rg_op rfl (op_move (v := (Value.bool false)) rfl ?_)
 iterate 4 refine Rg_opx rfl (asB_ne rfl rfl) rfl ?_
 refine Rg_op rfl (op_pick_f (v := (Value.bool false)) rfl rfl ?_)
 refine Rg_op rfl (op_move (v := (Value.bool false)) rfl ?_)
 iterate 4 refine Rg_opx rfl (asB_ne rfl rfl) rfl ?_
 refine Rg_op rfl (op_pick_f (v := (Value.bool false)) rfl rfl ?_)
 refine Rg_op rfl (op_assign (v := (Value.bool false)) rfl ?_)
 refine Rg_nil ?_
 exact hK221 _ _ ⟨false, _, rfl, ⟨(by repeat (first | with_reducible exact Out.refl _ _ | refine Out.upd ?_ rfl | refine Out.updL ?_ rfl | refine Out.mix' ?_ rfl | exact Out.refl _ _)), rfl, rfl, trivial⟩, ch227, hs318, hm⟩
 replace hm := bif_f hm hg324
 iterate 2 refine Rg_opx rfl (asB_ne rfl rfl) rfl ?_
 refine Rg_op rfl (op_pick_f (v := (Value.bool false)) rfl rfl ?_)
 refine Rg_op rfl (op_move (v := (Value.bool false)) rfl ?_)
 iterate 3 refine Rg_opx rfl (asB_ne rfl rfl) rfl ?_
 refine Rg_op rfl (op_pick_f (v := (Value.bool false)) rfl rfl ?_)
 refine Rg_op rfl (op_move (v := (Value.bool false)) rfl ?_)
 iterate 2 refine Rg_opx rfl (asB_ne rfl rfl) rfl ?_
 refine Rg_op rfl (op_pick_f (v := (Value.bool false)) rfl rfl ?_)
 refine Rg_op rfl (op_move (v := (Value.bool false)) rfl ?_)
 iterate 2 refine Rg_opx rfl (asB_ne rfl rfl) rfl ?_
 refine Rg_op rfl (op_pick_f (v := (Value.bool false)) rfl rfl ?_)
 refine Rg_op rfl (op_move (v := (Value.bool false)) rfl ?_)
 iterate 3 refine Rg_opx rfl (asB_ne rfl rfl) rfl ?_
 refine Rg_op rfl (op_pick_f (v := (Value.bool false)) rfl rfl ?_)
 refine Rg_op rfl (op_move (v := (Value.bool false)) rfl ?_)
 iterate 4 refine Rg_opx rfl (asB_ne rfl rfl) rfl ?_
 refine Rg_op rfl (op_pick_f (v := (Value.bool false)) rfl rfl ?_)
 refine Rg_op rfl (op_move (v := (Value.bool false)) rfl ?_)
 iterate 4 refine Rg_opx rfl (asB_ne rfl rfl) rfl ?_
 refine Rg_op rfl (op_pick_f (v := (Value.bool false)) rfl rfl ?_)
 refine Rg_op rfl (op_move (v := (Value.bool false)) rfl ?_)
 iterate 4 refine Rg_opx rfl (asB_ne rfl rfl) rfl ?_
 refine Rg_op rfl (op_pick_f (v := (Value.bool false)) rfl rfl ?_)
 refine Rg_op rfl (op_assign (v := (Value.bool false)) rfl ?_)
 refine Rg_nil ?_
 exact hK221 _ _ ⟨false, _, rfl, ⟨(by repeat (first | with_reducible exact Out.refl _ _ | refine Out.upd ?_ rfl | refine Out.updL ?_ rfl | refine Out.mix' ?_ rfl | exact Out.refl _ _)), rfl, rfl, trivial⟩, ch227, hs318, hm⟩
 replace hm := bif_f hm hg322
 iterate 3 refine Rg_opx rfl (asB_ne rfl rfl) rfl ?_
 refine Rg_op rfl (op_pick_f (v := (Value.bool false)) rfl rfl ?_)
 refine Rg_op rfl (op_move (v := (Value.bool false)) rfl ?_)
 iterate 2 refine Rg_opx rfl (asB_ne rfl rfl) rfl ?_
 refine Rg_op rfl (op_pick_f (v := (Value.bool false)) rfl rfl ?_)
 refine Rg_op rfl (op_move (v := (Value.bool false)) rfl ?_)
 iterate 3 refine Rg_opx rfl (asB_ne rfl rfl) rfl ?_
 refine Rg_op rfl (op_pick_f (v := (Value.bool false)) rfl rfl ?_)
 refine Rg_op rfl (op_move (v := (Value.bool false)) rfl ?_)
 iterate 2 refine Rg_opx rfl (asB_ne rfl rfl) rfl ?_
 refine Rg_op rfl (op_pick_f (v := (Value.bool false)) rfl rfl ?_)
 refine Rg_op rfl (op_move (v := (Value.bool false)) rfl ?_)
 iterate 2 refine Rg_opx rfl (asB_ne rfl rfl) rfl ?_
 refine Rg_op rfl (op_pick_f (v := (Value.bool false)) rfl rfl ?_)
 refine Rg_op rfl (op_move (v := (Value.bool false)) rfl ?_)
 iterate 3 refine Rg_opx rfl (asB_ne rfl rfl) rfl ?_
 refine Rg_op rfl (op_pick_f (v := (Value.bool false)) rfl rfl ?_)
 refine Rg_op rfl (op_move (v := (Value.bool false)) rfl ?_)
 iterate 4 refine Rg_opx rfl (asB_ne rfl rfl) rfl ?_
 refine Rg_op rfl (op_pick_f (v := (Value.bool false)) rfl rfl ?_)
 refine Rg_op rfl (op_move (v := (Value.bool false)) rfl ?_)
 iterate 4 refine Rg_opx rfl (asB_ne rfl rfl) rfl ?_
 refine Rg_op rfl (op_pick_f (v := (Value.bool false)) rfl rfl ?_)
 refine Rg_op rfl (op_move (v := (Value.bool false)) rfl ?_)
 iterate 4 refine Rg_opx rfl (asB_ne rfl rfl) rfl ?_
 refine Rg_op rfl (op_pick_f (v := (Value.bool false)) rfl rfl ?_)
 refine Rg_op rfl (op_assign (v := (Value.bool false)) rfl ?_)
 refine Rg_nil ?_
 exact hK221 _ _ ⟨false, _, rfl, ⟨(by repeat (first | with_reducible exact Out.refl _ _ | refine Out.upd ?_ rfl | refine Out.updL ?_ rfl | refine Out.mix' ?_ rfl | exact Out.refl _ _)), rfl, rfl, trivial⟩, ch227, hs318, hm⟩
 replace hm := bif_f hm hg321
 iterate 2 refine Rg_opx rfl (asB_ne rfl rfl) rfl ?_
 refine Rg_op rfl (op_pick_f (v := (Value.bool false)) rfl rfl ?_)
 refine Rg_op rfl (op_move (v := (Value.bool false)) rfl ?_)
 iterate 3 refine Rg_opx rfl (asB_ne rfl rfl) rfl ?_
 refine Rg_op rfl (op_pick_f (v := (Value.bool false)) rfl rfl ?_)
 refine Rg_op rfl (op_move (v := (Value.bool false)) rfl ?_)
 iterate 2 refine Rg_opx rfl (asB_ne rfl rfl) rfl ?_
 refine Rg_op rfl (op_pick_f (v := (Value.bool false)) rfl rfl ?_)
 refine Rg_op rfl (op_move (v := (Value.bool false)) rfl ?_)
 iterate 3 refine Rg_opx rfl (asB_ne rfl rfl) rfl ?_
 refine Rg_op rfl (op_pick_f (v := (Value.bool false)) rfl rfl ?_)
 refine Rg_op rfl (op_move (v := (Value.bool false)) rfl ?_)
 iterate 2 refine Rg_opx rfl (asB_ne rfl rfl) rfl ?_
 refine Rg_op rfl (op_pick_f (v := (Value.bool false)) rfl rfl ?_)
 refine Rg_op rfl (op_move (v := (Value.bool false)) rfl ?_)
 iterate 2 refine Rg_opx rfl (asB_ne rfl rfl) rfl ?_
 refine Rg_op rfl (op_pick_f (v := (Value.bool false)) rfl rfl ?_)
 refine Rg_op rfl (op_move (v := (Value.bool false)) rfl ?_)
 iterate 3 refine Rg_opx rfl (asB_ne rfl rfl) rfl ?_
 refine Rg_op rfl (op_pick_f (v := (Value.bool false)) rfl rfl ?_)
 refine Rg_op rfl (op_move (v := (Value.bool false)) rfl ?_)
 iterate 4 refine Rg_opx rfl (asB_ne rfl rfl) rfl ?_
 refine Rg_op rfl (op_pick_f (v := (Value.bool false)) rfl rfl ?_)
 refine Rg_op rfl (op_move (v := (Value.bool false)) rfl ?_)
 iterate 4 refine Rg_opx rfl (asB_ne rfl rfl) rfl ?_
 refine Rg_op rfl (op_pick_f (v := (Value.bool false)) rfl rfl ?_)
 refine Rg_op rfl (op_move (v := (Value.bool false)) rfl ?_)
 iterate 4 refine Rg_opx rfl (asB_ne rfl rfl) rfl ?_
 refine Rg_op rfl (op_pick_f (v := (Value.bool false)) rfl rfl ?_)
 refine Rg_op rfl (op_assign (v := (Value.bool false)) rfl ?_)
 refine Rg_nil ?_
 exact hK221 _ _ ⟨false, _, rfl, ⟨(by repeat (first | with_reducible exact Out.refl _ _ | refine Out.upd ?_ rfl | refine Out.updL ?_ rfl | refine Out.mix' ?_ rfl | exact Out.refl _ _)), rfl, rfl, trivial⟩, ch227, hs318, hm⟩
 replace hm := bif_f hm hg294
 iterate 4 refine Rg_opx rfl (asB_ne rfl rfl) rfl ?_
 refine Rg_op rfl (op_pick_f (v := (Value.bool false)) rfl rfl ?_)
 refine Rg_op rfl (op_move (v := (Value.bool false)) rfl ?_)
 iterate 2 refine Rg_opx rfl (asB_ne rfl rfl) rfl ?_
 refine Rg_op rfl (op_pick_f (v := (Value.bool false)) rfl rfl ?_)
 refine Rg_op rfl (op_move (v := (Value.bool false)) rfl ?_)
 iterate 3 refine Rg_opx rfl (asB_ne rfl rfl) rfl ?_
 refine Rg_op rfl (op_pick_f (v := (Value.bool false)) rfl rfl ?_)
 refine Rg_op rfl (op_move (v := (Value.bool false)) rfl ?_)
 iterate 2 refine Rg_opx rfl (asB_ne rfl rfl) rfl ?_
 refine Rg_op rfl (op_pick_f (v := (Value.bool false)) rfl rfl ?_)
 refine Rg_op rfl (op_move (v := (Value.bool false)) rfl ?_)
 iterate 3 refine Rg_opx rfl (asB_ne rfl rfl) rfl ?_
 refine Rg_op rfl (op_pick_f (v := (Value.bool false)) rfl rfl ?_)
 refine Rg_op rfl (op_move (v := (Value.bool false)) rfl ?_)
 iterate 2 refine Rg_opx rfl (asB_ne rfl rfl) rfl ?_
 refine Rg_op rfl (op_pick_f (v := (Value.bool false)) rfl rfl ?_)
 refine Rg_op rfl (op_move (v := (Value.bool false)) rfl ?_)
 iterate 2 refine Rg_opx rfl (asB_ne rfl rfl) rfl ?_
 refine Rg_op rfl (op_pick_f (v := (Value.bool false)) rfl rfl ?_)
 refine Rg_op rfl (op_move (v := (Value.bool false)) rfl ?_)
 iterate 3 refine Rg_opx rfl (asB_ne rfl rfl) rfl ?_
 refine Rg_op rfl (op_pick_f (v := (Value.bool false)) rfl rfl ?_)
 refine Rg_op rfl (op_move (v := (Value.bool false)) rfl ?_)
 iterate 4 refine Rg_opx rfl (asB_ne rfl rfl) rfl ?_
 refine Rg_op rfl (op_pick_f (v := (Value.bool false)) rfl rfl ?_)
 refine Rg_op rfl (op_move (v := (Value.bool false)) rfl ?_)
 iterate 4 refine Rg_opx rfl (asB_ne rfl rfl) rfl ?_
 refine Rg_op rfl (op_pick_f (v := (Value.bool false)) rfl rfl ?_)
 refine Rg_op rfl (op_move (v := (Value.bool false)) rfl ?_)
 iterate 4 refine Rg_opx rfl (asB_ne rfl rfl) rfl ?_
 refine Rg_op rfl (op_pick_f (v := (Value.bool false)) rfl rfl ?_)
 refine Rg_op rfl (op_assign (v := (Value.bool false)) rfl ?_)
 refine Rg_nil ?_
 exact hK221 _ _ ⟨false, _, rfl, ⟨(by repeat (first | with_reducible exact Out.refl _ _ | refine Out.upd ?_ rfl | refine Out.updL ?_ rfl | refine Out.mix' ?_ rfl | exact Out.refl _ _)), rfl, rfl, trivial⟩, ch227, hs290, hm⟩
 replace hm := bif_f hm hg293
 iterate 2 refine Rg_opx rfl (asB_ne rfl rfl) rfl ?_
 refine Rg_op rfl (op_pick_f (v := (Value.bool false)) rfl rfl ?_)
 refine Rg_op rfl (op_move (v := (Value.bool false)) rfl ?_)
 iterate 4 refine Rg_opx rfl (asB_ne rfl rfl) rfl ?_
 refine Rg_op rfl (op_pick_f (v := (Value.bool false)) rfl rfl ?_)
 refine Rg_op rfl (op_move (v := (Value.bool false)) rfl ?_)
 iterate 2 refine Rg_opx rfl (asB_ne rfl rfl) rfl ?_
 refine Rg_op rfl (op_pick_f (v := (Value.bool false)) rfl rfl ?_)
 refine Rg_op rfl (op_move (v := (Value.bool false)) rfl ?_)
 iterate 3 refine Rg_opx rfl (asB_ne rfl rfl) rfl ?_
 refine Rg_op rfl (op_pick_f (v := (Value.bool false)) rfl rfl ?_)
 refine Rg_op rfl (op_move (v := (Value.bool false)) rfl ?_)
 iterate 2 refine Rg_opx rfl (asB_ne rfl rfl) rfl ?_
 refine Rg_op rfl (op_pick_f (v := (Value.bool false)) rfl rfl ?_)
 refine Rg_op rfl (op_move (v := (Value.bool false)) rfl ?_)
 iterate 3 refine Rg_opx rfl (asB_ne rfl rfl) rfl ?_
 refine Rg_op rfl (op_pick_f (v := (Value.bool false)) rfl rfl ?_)
 refine Rg_op rfl (op_move (v := (Value.bool false)) rfl ?_)
 iterate 2 refine Rg_opx rfl (asB_ne rfl rfl) rfl ?_
 refine Rg_op rfl (op_pick_f (v := (Value.bool false)) rfl rfl ?_)
 refine Rg_op rfl (op_move (v := (Value.bool false)) rfl ?_)
 iterate 2 refine Rg_opx rfl (asB_ne rfl rfl) rfl ?_
 refine Rg_op rfl (op_pick_f (v := (Value.bool false)) rfl rfl ?_)
 refine Rg_op rfl (op_move (v := (Value.bool false)) rfl ?_)
 iterate 3 refine Rg_opx rfl (asB_ne rfl rfl) rfl ?_
 refine Rg_op rfl (op_pick_f (v := (Value.bool false)) rfl rfl ?_)
 refine Rg_op rfl (op_move (v := (Value.bool false)) rfl ?_)
 iterate 4 refine Rg_opx rfl (asB_ne rfl rfl) rfl ?_
 refine Rg_op rfl (op_pick_f (v := (Value.bool false)) rfl rfl ?_)
 refine Rg_op rfl (op_move (v := (Value.bool false)) rfl ?_)
 iterate 4 refine Rg_opx rfl (asB_ne rfl rfl) rfl ?_
 refine Rg_op rfl (op_pick_f (v := (Value.bool false)) rfl rfl ?_)
 refine Rg_op rfl (op_move (v := (Value.bool false)) rfl ?_)
 iterate 4 refine Rg_opx rfl (asB_ne rfl rfl) rfl ?_
 refine Rg_op rfl (op_pick_f (v := (Value.bool false)) rfl rfl ?_)
 refine Rg_op rfl (op_assign (v := (Value.bool false)) rfl ?_)
 refine Rg_nil ?_
 exact hK221 _ _ ⟨false, _, rfl, ⟨(by repeat (first | with_reducible exact Out.refl _ _ | refine Out.upd ?_ rfl | refine Out.updL ?_ rfl | refine Out.mix' ?_ rfl | exact Out.refl _ _)), rfl, rfl, trivial⟩, ch227, hs290, hm⟩
 replace hm := bif_f hm hg266
 iterate 4 refine Rg_opx rfl (asB_ne rfl rfl) rfl ?_
 refine Rg_op rfl (op_pick_f (v := (Value.bool false)) rfl rfl ?_)
 refine Rg_op rfl (op_move (v := (Value.bool false)) rfl ?_)
 iterate 2 refine Rg_opx rfl (asB_ne rfl rfl) rfl ?_
 refine Rg_op rfl (op_pick_f (v := (Value.bool false)) rfl rfl ?_)
 refine Rg_op rfl (op_move (v := (Value.bool false)) rfl ?_)
 iterate 4 refine Rg_opx rfl (asB_ne rfl rfl) rfl ?_
 refine Rg_op rfl (op_pick_f (v := (Value.bool false)) rfl rfl ?_)
 refine Rg_op rfl (op_move (v := (Value.bool false)) rfl ?_)
 iterate 2 refine Rg_opx rfl (asB_ne rfl rfl) rfl ?_
 refine Rg_op rfl (op_pick_f (v := (Value.bool false)) rfl rfl ?_)
 refine Rg_op rfl (op_move (v := (Value.bool false)) rfl ?_)
 iterate 3 refine Rg_opx rfl (asB_ne rfl rfl) rfl ?_
 refine Rg_op rfl (op_pick_f (v := (Value.bool false)) rfl rfl ?_)
 refine Rg_op rfl (op_move (v := (Value.bool false)) rfl ?_)
 iterate 2 refine Rg_opx rfl (asB_ne rfl rfl) rfl ?_
 refine Rg_op rfl (op_pick_f (v := (Value.bool false)) rfl rfl ?_)
 refine Rg_op rfl (op_move (v := (Value.bool false)) rfl ?_)
 iterate 3 refine Rg_opx rfl (asB_ne rfl rfl) rfl ?_
 refine Rg_op rfl (op_pick_f (v := (Value.bool false)) rfl rfl ?_)
 refine Rg_op rfl (op_move (v := (Value.bool false)) rfl ?_)
 iterate 2 refine Rg_opx rfl (asB_ne rfl rfl) rfl ?_
 refine Rg_op rfl (op_pick_f (v := (Value.bool false)) rfl rfl ?_)
 refine Rg_op rfl (op_move (v := (Value.bool false)) rfl ?_)
 iterate 2 refine Rg_opx rfl (asB_ne rfl rfl) rfl ?_
 refine Rg_op rfl (op_pick_f (v := (Value.bool false)) rfl rfl ?_)
 refine Rg_op rfl (op_move (v := (Value.bool false)) rfl ?_)
 iterate 3 refine Rg_opx rfl (asB_ne rfl rfl) rfl ?_
 refine Rg_op rfl (op_pick_f (v := (Value.bool false)) rfl rfl ?_)
 refine Rg_op rfl (op_move (v := (Value.bool false)) rfl ?_)
 iterate 4 refine Rg_opx rfl (asB_ne rfl rfl) rfl ?_
 refine Rg_op rfl (op_pick_f (v := (Value.bool false)) rfl rfl ?_)
 refine Rg_op rfl (op_move (v := (Value.bool false)) rfl ?_)
 iterate 4 refine Rg_opx rfl (asB_ne rfl rfl) rfl ?_
 refine Rg_op rfl (op_pick_f (v := (Value.bool false)) rfl rfl ?_)
 refine Rg_op rfl (op_move (v := (Value.bool false)) rfl ?_)
 iterate 4 refine Rg_opx rfl (asB_ne rfl rfl) rfl ?_
 refine Rg_op rfl (op_pick_f (v := (Value.bool false)) rfl rfl ?_)
 refine Rg_op rfl (op_assign (v := (Value.bool false)) rfl ?_)
 refine Rg_nil ?_
 exact hK221 _ _ ⟨false, _, rfl, ⟨(by repeat (first | with_reducible exact Out.refl _ _ | refine Out.upd ?_ rfl | refine Out.updL ?_ rfl | refine Out.mix' ?_ rfl | exact Out.refl _ _)), rfl, rfl, trivial⟩, ch227, hs262, hm⟩
 replace hm := bif_f hm hg265
 iterate 2 refine Rg_opx rfl (asB_ne rfl rfl) rfl ?_
 refine Rg_op rfl (op_pick_f (v := (Value.bool false)) rfl rfl ?_)
 refine Rg_op rfl (op_move (v := (Value.bool false)) rfl ?_)
 iterate 4 refine Rg_opx rfl (asB_ne rfl rfl) rfl ?_
 refine Rg_op rfl (op_pick_f (v := (Value.bool false)) rfl rfl ?_)
 refine Rg_op rfl (op_move (v := (Value.bool false)) rfl ?_)
 iterate 2 refine Rg_opx rfl (asB_ne rfl rfl) rfl ?_
 refine Rg_op rfl (op_pick_f (v := (Value.bool false)) rfl rfl ?_)
 refine Rg_op rfl (op_move (v := (Value.bool false)) rfl ?_)
 iterate 4 refine Rg_opx rfl (asB_ne rfl rfl) rfl ?_
 refine Rg_op rfl (op_pick_f (v := (Value.bool false)) rfl rfl ?_)
 refine Rg_op rfl (op_move (v := (Value.bool false)) rfl ?_)
 iterate 2 refine Rg_opx rfl (asB_ne rfl rfl) rfl ?_
 refine Rg_op rfl (op_pick_f (v := (Value.bool false)) rfl rfl ?_)
 refine Rg_op rfl (op_move (v := (Value.bool false)) rfl ?_)
 iterate 3 refine Rg_opx rfl (asB_ne rfl rfl) rfl ?_
 refine Rg_op rfl (op_pick_f (v := (Value.bool false)) rfl rfl ?_)
 refine Rg_op rfl (op_move (v := (Value.bool false)) rfl ?_)
 iterate 2 refine Rg_opx rfl (asB_ne rfl rfl) rfl ?_
 refine Rg_op rfl (op_pick_f (v := (Value.bool false)) rfl rfl ?_)
 refine Rg_op rfl (op_move (v := (Value.bool false)) rfl ?_)
 iterate 3 refine Rg_opx rfl (asB_ne rfl rfl) rfl ?_
 refine Rg_op rfl (op_pick_f (v := (Value.bool false)) rfl rfl ?_)
 refine Rg_op rfl (op_move (v := (Value.bool false)) rfl ?_)
 iterate 2 refine Rg_opx rfl (asB_ne rfl rfl) rfl ?_
 refine Rg_op rfl (op_pick_f (v := (Value.bool false)) rfl rfl ?_)
 refine Rg_op rfl (op_move (v := (Value.bool false)) rfl ?_)
 iterate 2 refine Rg_opx rfl (asB_ne rfl rfl) rfl ?_
 refine Rg_op rfl (op_pick_f (v := (Value.bool false)) rfl rfl ?_)
 refine Rg_op rfl (op_move (v := (Value.bool false)) rfl ?_)
 iterate 3 refine Rg_opx rfl (asB_ne rfl rfl) rfl ?_
 refine Rg_op rfl (op_pick_f (v := (Value.bool false)) rfl rfl ?_)
 refine Rg_op rfl (op_move (v := (Value.bool false)) rfl ?_)
 iterate 4 refine Rg_opx rfl (asB_ne rfl rfl) rfl ?_
 refine Rg_op rfl (op_pick_f (v := (Value.bool false)) rfl rfl ?_)
 refine Rg_op rfl (op_move (v := (Value.bool false)) rfl ?_)
 iterate 4 refine Rg_opx rfl (asB_ne rfl rfl) rfl ?_
 refine Rg_op rfl (op_pick_f (v := (Value.bool false)) rfl rfl ?_)
 refine Rg_op rfl (op_move (v := (Value.bool false)) rfl ?_)
 iterate 4 refine Rg_opx rfl (asB_ne rfl rfl) rfl ?_
 refine Rg_op rfl (op_pick_f (v := (Value.bool false)) rfl rfl ?_)
 refine Rg_op rfl (op_assign (v := (Value.bool false)) rfl ?_)
 refine Rg_nil ?_
 exact hK221 _ _ ⟨false, _, rfl, ⟨(by repeat (first | with_reducible exact Out.refl _ _ | refine Out.upd ?_ rfl | refine Out.updL ?_ rfl | refine Out.mix' ?_ rfl | exact Out.refl _ _)), rfl, rfl, trivial⟩, ch227, hs262, hm⟩
 replace hm := bif_f hm hg247
 iterate 3 refine Rg_opx rfl (asB_ne rfl rfl) rfl ?_
 refine Rg_op rfl (op_pick_f (v := (Value.bool false)) rfl rfl ?_)
 refine Rg_op rfl (op_move (v := (Value.bool false)) rfl ?_)
 iterate 2 refine Rg_opx rfl (asB_ne rfl rfl) rfl ?_
 refine Rg_op rfl (op_pick_f (v := (Value.bool false)) rfl rfl ?_)
 refine Rg_op rfl (op_move (v := (Value.bool false)) rfl ?_)
 iterate 4 refine Rg_opx rfl (asB_ne rfl rfl) rfl ?_
 refine Rg_op rfl (op_pick_f (v := (Value.bool false)) rfl rfl ?_)
 refine Rg_op rfl (op_move (v := (Value.bool false)) rfl ?_)
 iterate 2 refine Rg_opx rfl (asB_ne rfl rfl) rfl ?_
 refine Rg_op rfl (op_pick_f (v := (Value.bool false)) rfl rfl ?_)
 refine Rg_op rfl (op_move (v := (Value.bool false)) rfl ?_)
 iterate 4 refine Rg_opx rfl (asB_ne rfl rfl) rfl ?_
 refine Rg_op rfl (op_pick_f (v := (Value.bool false)) rfl rfl ?_)
 refine Rg_op rfl (op_move (v := (Value.bool false)) rfl ?_)
 iterate 2 refine Rg_opx rfl (asB_ne rfl rfl) rfl ?_
 refine Rg_op rfl (op_pick_f (v := (Value.bool false)) rfl rfl ?_)
 refine Rg_op rfl (op_move (v := (Value.bool false)) rfl ?_)
 iterate 3 refine Rg_opx rfl (asB_ne rfl rfl) rfl ?_
 refine Rg_op rfl (op_pick_f (v := (Value.bool false)) rfl rfl ?_)
 refine Rg_op rfl (op_move (v := (Value.bool false)) rfl ?_)
 iterate 2 refine Rg_opx rfl (asB_ne rfl rfl) rfl ?_
 refine Rg_op rfl (op_pick_f (v := (Value.bool false)) rfl rfl ?_)
 refine Rg_op rfl (op_move (v := (Value.bool false)) rfl ?_)
 iterate 3 refine Rg_opx rfl (asB_ne rfl rfl) rfl ?_
 refine Rg_op rfl (op_pick_f (v := (Value.bool false)) rfl rfl ?_)
 refine Rg_op rfl (op_move (v := (Value.bool false)) rfl ?_)
 iterate 2 refine Rg_opx rfl (asB_ne rfl rfl) rfl ?_
 refine Rg_op rfl (op_pick_f (v := (Value.bool false)) rfl rfl ?_)
 refine Rg_op rfl (op_move (v := (Value.bool false)) rfl ?_)
 iterate 2 refine Rg_opx rfl (asB_ne rfl rfl) rfl ?_
 refine Rg_op rfl (op_pick_f (v := (Value.bool false)) rfl rfl ?_)
 refine Rg_op rfl (op_move (v := (Value.bool false)) rfl ?_)
 iterate 3 refine Rg_opx rfl (asB_ne rfl rfl) rfl ?_
 refine Rg_op rfl (op_pick_f (v := (Value.bool false)) rfl rfl ?_)
 refine Rg_op rfl (op_move (v := (Value.bool false)) rfl ?_)
 iterate 4 refine Rg_opx rfl (asB_ne rfl rfl) rfl ?_
 refine Rg_op rfl (op_pick_f (v := (Value.bool false)) rfl rfl ?_)
 refine Rg_op rfl (op_move (v := (Value.bool false)) rfl ?_)
 iterate 4 refine Rg_opx rfl (asB_ne rfl rfl) rfl ?_
 refine Rg_op rfl (op_pick_f (v := (Value.bool false)) rfl rfl ?_)
 refine Rg_op rfl (op_move (v := (Value.bool false)) rfl ?_)
 iterate 4 refine Rg_opx rfl (asB_ne rfl rfl) rfl ?_
 refine Rg_op rfl (op_pick_f (v := (Value.bool false)) rfl rfl ?_)
 refine Rg_op rfl (op_assign (v := (Value.bool false)) rfl ?_)
 refine Rg_nil ?_
 exact hK221 _ _ ⟨false, _, rfl, ⟨(by repeat (first | with_reducible exact Out.refl _ _ | refine Out.upd ?_ rfl | refine Out.updL ?_ rfl | refine Out.mix' ?_ rfl | exact Out.refl _ _)), rfl, rfl, trivial⟩, ch227, hs243, hm⟩
 replace hm := bif_f hm hg246
 iterate 2 refine Rg_opx rfl (asB_ne rfl rfl) rfl ?_
 refine Rg_op rfl (op_pick_f (v := (Value.bool false)) rfl rfl ?_)
 refine Rg_op rfl (op_move (v := (Value.bool false)) rfl ?_)
 iterate 3 refine Rg_opx rfl (asB_ne rfl rfl) rfl ?_
 refine Rg_op rfl (op_pick_f (v := (Value.bool false)) rfl rfl ?_)
 refine Rg_op rfl (op_move (v := (Value.bool false)) rfl ?_)
 iterate 2 refine Rg_opx rfl (asB_ne rfl rfl) rfl ?_
 refine Rg_op rfl (op_pick_f (v := (Value.bool false)) rfl rfl ?_)
 refine Rg_op rfl (op_move (v := (Value.bool false)) rfl ?_)
 iterate 4 refine Rg_opx rfl (asB_ne rfl rfl) rfl ?_
 refine Rg_op rfl (op_pick_f (v := (Value.bool false)) rfl rfl ?_)
 refine Rg_op rfl (op_move (v := (Value.bool false)) rfl ?_)
 iterate 2 refine Rg_opx rfl (asB_ne rfl rfl) rfl ?_
 refine Rg_op rfl (op_pick_f (v := (Value.bool false)) rfl rfl ?_)
 refine Rg_op rfl (op_move (v := (Value.bool false)) rfl ?_)
 iterate 4 refine Rg_opx rfl (asB_ne rfl rfl) rfl ?_
 refine Rg_op rfl (op_pick_f (v := (Value.bool false)) rfl rfl ?_)
 refine Rg_op rfl (op_move (v := (Value.bool false)) rfl ?_)
 iterate 2 refine Rg_opx rfl (asB_ne rfl rfl) rfl ?_
 refine Rg_op rfl (op_pick_f (v := (Value.bool false)) rfl rfl ?_)
 refine Rg_op rfl (op_move (v := (Value.bool false)) rfl ?_)
 iterate 3 refine Rg_opx rfl (asB_ne rfl rfl) rfl ?_
 refine Rg_op rfl (op_pick_f (v := (Value.bool false)) rfl rfl ?_)
 refine Rg_op rfl (op_move (v := (Value.bool false)) rfl ?_)
 iterate 2 refine Rg_opx rfl (asB_ne rfl rfl) rfl ?_
 refine Rg_op rfl (op_pick_f (v := (Value.bool false)) rfl rfl ?_)
 refine Rg_op rfl (op_move (v := (Value.bool false)) rfl ?_)
 iterate 3 refine Rg_opx rfl (asB_ne rfl rfl) rfl ?_
 refine Rg_op rfl (op_pick_f (v := (Value.bool false)) rfl rfl ?_)
 refine Rg_op rfl (op_move (v := (Value.bool false)) rfl ?_)
 iterate 2 refine Rg_opx rfl (asB_ne rfl rfl) rfl ?_
 refine Rg_op rfl (op_pick_f (v := (Value.bool false)) rfl rfl ?_)
 refine Rg_op rfl (op_move (v := (Value.bool false)) rfl ?_)
 iterate 2 refine Rg_opx rfl (asB_ne rfl rfl) rfl ?_
 refine Rg_op rfl (op_pick_f (v := (Value.bool false)) rfl rfl ?_)
 refine Rg_op rfl (op_move (v := (Value.bool false)) rfl ?_)
 iterate 3 refine Rg_opx rfl (asB_ne rfl rfl) rfl ?_
 refine Rg_op rfl (op_pick_f (v := (Value.bool false)) rfl rfl ?_)
 refine Rg_op rfl (op_move (v := (Value.bool false)) rfl ?_)
 iterate 4 refine Rg_opx rfl (asB_ne rfl rfl) rfl ?_
 refine Rg_op rfl (op_pick_f (v := (Value.bool false)) rfl rfl ?_)
 refine Rg_op rfl (op_move (v := (Value.bool false)) rfl ?_)
 iterate 4 refine Rg_opx rfl (asB_ne rfl rfl) rfl ?_
 refine Rg_op rfl (op_pick_f (v := (Value.bool false)) rfl rfl ?_)
 refine Rg_op rfl (op_move (v := (Value.bool false)) rfl ?_)
 iterate 4 refine Rg_opx rfl (asB_ne rfl rfl) rfl ?_
 refine Rg_op rfl (op_pick_f (v := (Value.bool false)) rfl rfl ?_)
 refine Rg_op rfl (op_assign (v := (Value.bool false)) rfl ?_)
 refine Rg_nil ?_
 exact hK221 _ _ ⟨false, _, rfl, ⟨(by repeat (first | with_reducible exact Out.refl _ _ | refine Out.upd ?_ rfl | refine Out.updL ?_ rfl | refine Out.mix' ?_ rfl | exact Out.refl _ _)), rfl, rfl, trivial⟩, ch227, hs243, hm⟩
 replace hm := bif_f hm hg228
 iterate 3 refine Rg_opx rfl (asB_ne rfl rfl) rfl ?_
 refine Rg_op rfl (op_pick_f (v := (Value.bool false)) rfl rfl ?_)
 refine Rg_op rfl (op_move (v := (Value.bool false)) rfl ?_)
 iterate 2 refine Rg_opx rfl (asB_ne rfl rfl) rfl ?_
 refine Rg_op rfl (op_pick_f (v := (Value.bool false)) rfl rfl ?_)
 refine Rg_op rfl (op_move (v := (Value.bool false)) rfl ?_)
 iterate 3 refine Rg_opx rfl (asB_ne rfl rfl) rfl ?_
 refine Rg_op rfl (op_pick_f (v := (Value.bool false)) rfl rfl ?_)
 refine Rg_op rfl (op_move (v := (Value.bool false)) rfl ?_)
 iterate 2 refine Rg_opx rfl (asB_ne rfl rfl) rfl ?_
 refine Rg_op rfl (op_pick_f (v := (Value.bool false)) rfl rfl ?_)
 refine Rg_op rfl (op_move (v := (Value.bool false)) rfl ?_)
 iterate 4 refine Rg_opx rfl (asB_ne rfl rfl) rfl ?_
 refine Rg_op rfl (op_pick_f (v := (Value.bool false)) rfl rfl ?_)
 refine Rg_op rfl (op_move (v := (Value.bool false)) rfl ?_)
 iterate 2 refine Rg_opx rfl (asB_ne rfl rfl) rfl ?_
 refine Rg_op rfl (op_pick_f (v := (Value.bool false)) rfl rfl ?_)
 refine Rg_op rfl (op_move (v := (Value.bool false)) rfl ?_)
 iterate 4 refine Rg_opx rfl (asB_ne rfl rfl) rfl ?_
 refine Rg_op rfl (op_pick_f (v := (Value.bool false)) rfl rfl ?_)
 refine Rg_op rfl (op_move (v := (Value.bool false)) rfl ?_)
 iterate 2 refine Rg_opx rfl (asB_ne rfl rfl) rfl ?_
 refine Rg_op rfl (op_pick_f (v := (Value.bool false)) rfl rfl ?_)
 refine Rg_op rfl (op_move (v := (Value.bool false)) rfl ?_)
 iterate 3 refine Rg_opx rfl (asB_ne rfl rfl) rfl ?_
 refine Rg_op rfl (op_pick_f (v := (Value.bool false)) rfl rfl ?_)
 refine Rg_op rfl (op_move (v := (Value.bool false)) rfl ?_)
 iterate 2 refine Rg_opx rfl (asB_ne rfl rfl) rfl ?_
 refine Rg_op rfl (op_pick_f (v := (Value.bool false)) rfl rfl ?_)
 refine Rg_op rfl (op_move (v := (Value.bool false)) rfl ?_)
 iterate 3 refine Rg_opx rfl (asB_ne rfl rfl) rfl ?_
 refine Rg_op rfl (op_pick_f (v := (Value.bool false)) rfl rfl ?_)
 refine Rg_op rfl (op_move (v := (Value.bool false)) rfl ?_)
 iterate 2 refine Rg_opx rfl (asB_ne rfl rfl) rfl ?_
 refine Rg_op rfl (op_pick_f (v := (Value.bool false)) rfl rfl ?_)
 refine Rg_op rfl (op_move (v := (Value.bool false)) rfl ?_)
 iterate 2 refine Rg_opx rfl (asB_ne rfl rfl) rfl ?_
 refine Rg_op rfl (op_pick_f (v := (Value.bool false)) rfl rfl ?_)
 refine Rg_op rfl (op_move (v := (Value.bool false)) rfl ?_)
 iterate 3 refine Rg_opx rfl (asB_ne rfl rfl) rfl ?_
 refine Rg_op rfl (op_pick_f (v := (Value.bool false)) rfl rfl ?_)
 refine Rg_op rfl (op_move (v := (Value.bool false)) rfl ?_)
 iterate 4 refine Rg_opx rfl (asB_ne rfl rfl) rfl ?_
 refine Rg_op rfl (op_pick_f (v := (Value.bool false)) rfl rfl ?_)
 refine Rg_op rfl (op_move (v := (Value.bool false)) rfl ?_)
 iterate 4 refine Rg_opx rfl (asB_ne rfl rfl) rfl ?_
 refine Rg_op rfl (op_pick_f (v := (Value.bool false)) rfl rfl ?_)
 refine Rg_op rfl (op_move (v := (Value.bool false)) rfl ?_)
 iterate 4 refine Rg_opx rfl (asB_ne rfl rfl) rfl ?_
 refine Rg_op rfl (op_pick_f (v := (Value.bool false)) rfl rfl ?_)
 refine Rg_op rfl (op_assign (v := (Value.bool false)) rfl ?_)
 refine Rg_nil ?_
 exact hK221 _ _ ⟨false, _, rfl, ⟨(by repeat (first | with_reducible exact Out.refl _ _ | refine Out.upd ?_ rfl | refine Out.updL ?_ rfl | refine Out.mix' ?_ rfl | exact Out.refl _ _)), rfl, rfl, trivial⟩, ch227, hs209, hm⟩

def m54_overflightref37_Valid_B1 (r_ : XRound) (i_1 : Int) (sf21 : Int → Option Bool) (sf46 : Int → Option Bool) (k_1 : Int) : Option Bool :=
 bif (decide (k_1 < r_.slots)) then
  jn (fun (v_3 : Bool) =>
   bif v_3 then
    some false
   else
    sf46 (IntKind.wrap .i64 (k_1 + 1)))
  (fun k59 =>
   ck ((0 : Int) ≤ i_1 ∧ i_1 < (r_.costs.length : Int)) <|
   ck ((0 : Int) ≤ k_1 ∧ k_1 < ((r_.costs.getD i_1.toNat default).length : Int)) <|
   bif (decide (((r_.costs.getD i_1.toNat default).getD k_1.toNat default) < (-1))) then
    k59 true
   else
    ck ((0 : Int) ≤ i_1 ∧ i_1 < (r_.costs.length : Int)) <|
    ck ((0 : Int) ≤ k_1 ∧ k_1 < ((r_.costs.getD i_1.toNat default).length : Int)) <|
    bif (decide (1048576 < ((r_.costs.getD i_1.toNat default).getD k_1.toNat default))) then
     k59 true
    else
     bif (decide (k_1 = i_1)) then
      ck ((0 : Int) ≤ i_1 ∧ i_1 < (r_.costs.length : Int)) <|
      ck ((0 : Int) ≤ k_1 ∧ k_1 < ((r_.costs.getD i_1.toNat default).length : Int)) <|
      k59 (decide (((r_.costs.getD i_1.toNat default).getD k_1.toNat default) < 0))
     else
      k59 false)
 else
  sf21 (IntKind.wrap .i64 (i_1 + 1))

def m54_overflightref37_Valid_B0 (r_ : XRound) (sf21 : Int → Option Bool) (i_1 : Int) : Option Bool :=
 bif (decide (i_1 < (r_.owners.length : Int))) then
  jn (fun (v_2 : Bool) =>
   bif v_2 then
    some false
   else
    loop1 (m54_overflightref37_Valid_B1 r_ i_1 sf21) ((r_.slots - 0).toNat + 1) 0)
  (fun k35 =>
   ck ((0 : Int) ≤ i_1 ∧ i_1 < (r_.owners.length : Int)) <|
   bif (decide ((r_.owners.getD i_1.toNat default) < 0)) then
    k35 true
   else
    ck ((0 : Int) ≤ i_1 ∧ i_1 < (r_.owners.length : Int)) <|
    bif (decide (8 ≤ (r_.owners.getD i_1.toNat default))) then
     k35 true
    else
     ck ((0 : Int) ≤ i_1 ∧ i_1 < (r_.costs.length : Int)) <|
     k35 (decide (((r_.costs.getD i_1.toNat default).length : Int) ≠ r_.slots)))
 else
  some true

def m54_overflightref37_Valid (r_ : XRound) : Option Bool :=
 jn (fun (v_1 : Bool) =>
  bif v_1 then
   some false
  else
   loop1 (m54_overflightref37_Valid_B0 r_) (((r_.owners.length : Int) - 0).toNat + 1) 0)
 (fun k8 =>
  bif (decide (r_.slots < 1)) then
   k8 true
  else
   bif (decide (8 < r_.slots)) then
    k8 true
   else
    bif (decide (r_.slots < (r_.owners.length : Int))) then
     k8 true
    else
     k8 (decide ((r_.costs.length : Int) ≠ (r_.owners.length : Int))))

theorem c54_overflightref37_Valid {w : World} {O : List Nat} {r_ : XRound} {Aa : Option Addr} {Ca : Nat} {Ab : Option Addr} {Cb : Nat} (hO : ∀ k ∈ O, k < w.heap.size) (Ra : InK .i64 r_.slots) (Fa : SlR (rInt .i64) w O Aa Ca r_.owners) (Fb : SlR (rSl (rInt .i64)) w O Ab Cb r_.costs) {x : Bool} (hm : m54_overflightref37_Valid r_ = some x) :
 Ok Try.prog 54 [(Value.agg [(Value.int .i64 r_.slots), (Value.slice Aa r_.owners.length Ca), (Value.slice Ab r_.costs.length Cb)].toArray)] w O vB x := by
 unfold m54_overflightref37_Valid at hm
 refine Fn_of_Wp (n := 104) (xs := [.tmp 2]) Try.func54 rfl Try.ntmps54 Try.results54 rfl ?_
 have hs := St.start hO
 refine Wp_seq (Wp_region ?_)
 refine Rg_op rfl (op_box (cs := [(Value.int .i64 r_.slots), (Value.slice Aa r_.owners.length Ca), (Value.slice Ab r_.costs.length Cb)]) hs rfl rfl ?_)
 intro b1 w2 _ p3 hs4
 replace Fa := Fa.step p3; replace Fb := Fb.step p3; clear p3
 refine Rg_op rfl (op_assign (v := (Value.bool false)) rfl ?_)
 refine Rg_nil (Wp_seq ?_)
 refine Wp_reset [] [(1, (Value.pointer (some ⟨b1, 0, none⟩)))] rfl ⟨rfl, trivial⟩ fun ξ6 => ?_
 replace hm := jn_elim hm; obtain ⟨k8, hk9, hm⟩ := hm
 refine Wp_seqJ [5, 6, 7, 8, 9, 10, 11, 12, 13, 14, 15, 16, 17, 18, 19, 20, 21, 22, 23, 24, 25, 26, 27, 28, 29] (fun fr w' => ∃ (v_1 : Bool) (Ebs : Ents), Ebs = [(some b1, Obj.cells [(Value.int .i64 r_.slots), (Value.slice Aa r_.owners.length Ca), (Value.slice Ab r_.costs.length Cb)].toArray 25)] ∧ fr [] [(29, (Value.bool v_1))] ∧ Step (ks [(some b1, Obj.cells [(Value.int .i64 r_.slots), (Value.slice Aa r_.owners.length Ca), (Value.slice Ab r_.costs.length Cb)].toArray 25)] O) w2 (ks Ebs O) w' ∧ St ⟨w, [], []⟩ O w' Ebs ∧ k8 v_1 = some x) ?_ ?_
 rintro ρ15 w11 ⟨v_1, Ebs, hEbs, hfr14, hst13, hs12, hm⟩
 replace hm := jnE1 hk9 hm
 subst hEbs; rw [hfr14.eq]; clear hfr14
 replace Fa := Fa.step hst13; replace Fb := Fb.step hst13; clear hst13 hs4
 refine Wp_cond rfl (fun hc16 => ?_) (fun hc16 => ?_)
 replace hm := bif_t hm hc16
 refine Wp_seq ?_
 obtain ⟨hs17, p18⟩ := hs12.sub (bs' := []) (.cons _ List.Sublist.slnil)
 clear Fa Fb
 clear p18 hs12
 refine Wp_region ?_
 refine Rg_op rfl (op_assign (v := (Value.bool false)) rfl ?_)
 refine Rg_nil ?_
 refine Wp_ret ?_
 have hz := step_all hs17
 refine ⟨_, (show Closes [] _ _ from rfl), [(Value.bool false)], ⟨rfl, trivial⟩, hs17.ext, ?_⟩
 exact Vr.eq (a := vB) (x := false) rfl (Option.some.inj hm)
 replace hm := bif_f hm hc16
 refine Wp_skip (Wp_seq (Wp_seq (Wp_region ?_)))
 refine Rg_op rfl (op_assign (v := (Value.int .i64 0)) rfl ?_)
 refine Rg_nil (Wp_block ?_)
 refine Wp_reset [] [(1, (Value.pointer (some ⟨b1, 0, none⟩))), (3, (Value.int .i64 0))] rfl ⟨rfl, rfl, trivial⟩ fun ξ20 => ?_
 refine Wp_loopM [2, 3, 4, 30, 31, 32, 33, 34, 35, 36, 37, 38, 39, 40, 41, 42, 43, 44, 45, 46, 47, 48, 49, 50, 51, 52, 53, 54, 55, 56, 57, 58, 59, 60, 61, 62, 63, 64, 65, 66, 67, 68, 69, 70, 71, 72, 73, 74, 75, 76, 77, 78, 79, 80, 81, 82, 83, 84, 85, 86, 87, 88, 89, 90, 91, 92, 93, 94, 95, 96, 97, 98, 99, 100, 101, 102, 103] (fun m fr w' => ∃ (i_1 : Int) (Ebs : Ents), Ebs = [(some b1, Obj.cells [(Value.int .i64 r_.slots), (Value.slice Aa r_.owners.length Ca), (Value.slice Ab r_.costs.length Cb)].toArray 25)] ∧ fr [] [(3, (Value.int .i64 i_1))] ∧ Step (ks [(some b1, Obj.cells [(Value.int .i64 r_.slots), (Value.slice Aa r_.owners.length Ca), (Value.slice Ab r_.costs.length Cb)].toArray 25)] O) w11 (ks Ebs O) w' ∧ St ⟨w, [], []⟩ O w' Ebs ∧ InK .i64 i_1 ∧ loop1 (m54_overflightref37_Valid_B0 r_) m i_1 = some x) (((r_.owners.length : Int) - 0).toNat + 1) ⟨0, _, rfl, ⟨Out.refl _ _, rfl, rfl, trivial⟩, Step.refl _ _, hs12, (show InK .i64 0 from by decide), hm⟩ ?_ ?_
 rintro _ _ ⟨_, _, _, _, _, _, _, hm⟩; exact loop1_z hm
 rintro m24 K23 hK23 ρ29 w25 ⟨i_1, Ebs, hEbs, hfr28, hst27, hs26, Rb, hm⟩
 obtain ⟨sf21, hsf22, hm⟩ := loop1_s hm; unfold m54_overflightref37_Valid_B0 at hm
 subst hEbs; rw [hfr28.eq]; clear hfr28
 replace Fa := Fa.step hst27; replace Fb := Fb.step hst27
 have ch30 := hst27
 refine Wp_seq (Wp_seq (Wp_region ?_))
 refine Rg_op rfl (op_move (v := (Value.int .i64 i_1)) rfl ?_)
 refine Rg_op rfl (op_fieldAddr ty25 rfl ty22 (by decide) rfl (rfl : _ = (⟨_, 1, none⟩ : Addr)) ?_)
 refine Rg_op rfl (op_load (cs := [(Value.int .i64 r_.slots), (Value.slice Aa r_.owners.length Ca), (Value.slice Ab r_.costs.length Cb)]) (i := 0) ty22 hs26 rfl rfl rfl ?_)
 refine Rg_op rfl (op_len Try.underlying22 rfl ?_)
 have rl31 := inK_len Fa
 refine Rg_op rfl (op_lss rfl rfl ?_)
 refine Rg_nil ?_
 refine Wp_cond rfl (fun hc32 => ?_) (fun hc32 => ?_)
 replace hm := bif_t hm hc32
 refine Wp_skip (Wp_seq (Wp_block (Wp_seq ?_)))
 refine Wp_reset2 [2, 3, 4, 30, 31, 32, 33, 34, 35, 36, 37, 38, 39, 40, 41, 42, 43, 44, 45, 46, 47, 48, 49, 50, 51, 52, 53, 54, 55, 56, 57, 58, 59, 60, 61, 62, 63, 64, 65, 66, 67, 68, 69, 70, 71, 72, 73, 74, 75, 76, 77, 78, 79, 80, 81, 82, 83, 84, 85, 86, 87, 88, 89, 90, 91, 92, 93, 94, 95, 96, 97, 98, 99, 100, 101, 102, 103] [] (updL ⟨ξ20, []⟩ [(1, (Value.pointer (some ⟨b1, 0, none⟩))), (3, (Value.int .i64 0))]) [(3, (Value.int .i64 i_1))] (by repeat (first | with_reducible exact Out.refl _ _ | refine Out.upd ?_ rfl | refine Out.updL ?_ rfl | refine Out.mix' ?_ rfl | exact Out.refl _ _)) rfl ⟨rfl, trivial⟩ fun ξ33 => ?_
 replace hm := jn_elim hm; obtain ⟨k35, hk36, hm⟩ := hm
 refine Wp_seqJ [37, 38, 39, 40, 41, 42, 43, 44, 45, 46, 47, 48, 49, 50, 51, 52, 53, 54, 55, 56, 57, 58, 59, 60, 61] (fun fr w' => ∃ (v_2 : Bool) (Ebs : Ents), Ebs = [(some b1, Obj.cells [(Value.int .i64 r_.slots), (Value.slice Aa r_.owners.length Ca), (Value.slice Ab r_.costs.length Cb)].toArray 25)] ∧ fr [] [(61, (Value.bool v_2))] ∧ Step (ks [(some b1, Obj.cells [(Value.int .i64 r_.slots), (Value.slice Aa r_.owners.length Ca), (Value.slice Ab r_.costs.length Cb)].toArray 25)] O) w25 (ks Ebs O) w' ∧ St ⟨w, [], []⟩ O w' Ebs ∧ k35 v_2 = some x) ?_ ?_
 rintro ρ42 w38 ⟨v_2, Ebs, hEbs, hfr41, hst40, hs39, hm⟩
 replace hm := jnE1 hk36 hm
 subst hEbs; rw [hfr41.eq]; clear hfr41
 replace Fa := Fa.step hst40; replace Fb := Fb.step hst40; replace ch30 := ch30.trans hst40; clear hst40 hs26
 refine Wp_cond rfl (fun hc43 => ?_) (fun hc43 => ?_)
 replace hm := bif_t hm hc43
 refine Wp_seq (Wp_region ?_)
 refine Rg_op rfl (op_assign (v := (Value.bool false)) rfl ?_)
 refine Rg_nil ?_
 refine Wp_ret ?_
 have hz := step_all hs39
 replace Fa := Fa.step hz; replace Fb := Fb.step hz
 refine ⟨_, (show Closes [] _ _ from rfl), [(Value.bool false)], ⟨rfl, trivial⟩, hs39.ext, ?_⟩
 exact Vr.eq (a := vB) (x := false) rfl (Option.some.inj hm)
 replace hm := bif_f hm hc43
 refine Wp_skip (Wp_seq (Wp_region ?_))
 refine Rg_op rfl (op_assign (v := (Value.int .i64 0)) rfl ?_)
 refine Rg_nil (Wp_block ?_)
 refine Wp_reset2 [2, 3, 4, 30, 31, 32, 33, 34, 35, 36, 37, 38, 39, 40, 41, 42, 43, 44, 45, 46, 47, 48, 49, 50, 51, 52, 53, 54, 55, 56, 57, 58, 59, 60, 61, 62, 63, 64, 65, 66, 67, 68, 69, 70, 71, 72, 73, 74, 75, 76, 77, 78, 79, 80, 81, 82, 83, 84, 85, 86, 87, 88, 89, 90, 91, 92, 93, 94, 95, 96, 97, 98, 99, 100, 101, 102, 103] [] (updL ⟨ξ20, []⟩ [(1, (Value.pointer (some ⟨b1, 0, none⟩))), (3, (Value.int .i64 0))]) [(3, (Value.int .i64 i_1)), (4, (Value.int .i64 0))] (by repeat (first | with_reducible exact Out.refl _ _ | refine Out.upd ?_ rfl | refine Out.updL ?_ rfl | refine Out.mix' ?_ rfl | exact Out.refl _ _)) rfl ⟨rfl, rfl, trivial⟩ fun ξ45 => ?_
 refine Wp_loopM [2, 4, 62, 63, 64, 65, 66, 67, 68, 69, 70, 71, 72, 73, 74, 75, 76, 77, 78, 79, 80, 81, 82, 83, 84, 85, 86, 87, 88, 89, 90, 91, 92, 93, 94, 95, 96, 97, 98, 99, 100, 101, 102, 103] (fun m fr w' => ∃ (k_1 : Int) (Ebs : Ents), Ebs = [(some b1, Obj.cells [(Value.int .i64 r_.slots), (Value.slice Aa r_.owners.length Ca), (Value.slice Ab r_.costs.length Cb)].toArray 25)] ∧ fr [] [(4, (Value.int .i64 k_1))] ∧ Step (ks [(some b1, Obj.cells [(Value.int .i64 r_.slots), (Value.slice Aa r_.owners.length Ca), (Value.slice Ab r_.costs.length Cb)].toArray 25)] O) w38 (ks Ebs O) w' ∧ St ⟨w, [], []⟩ O w' Ebs ∧ InK .i64 k_1 ∧ loop1 (m54_overflightref37_Valid_B1 r_ i_1 sf21) m k_1 = some x) ((r_.slots - 0).toNat + 1) ⟨0, _, rfl, ⟨Out.refl _ _, rfl, rfl, trivial⟩, Step.refl _ _, hs39, (show InK .i64 0 from by decide), hm⟩ ?_ ?_
 rintro _ _ ⟨_, _, _, _, _, _, _, hm⟩; exact loop1_z hm
 rintro m49 K48 hK48 ρ54 w50 ⟨k_1, Ebs, hEbs, hfr53, hst52, hs51, Rc, hm⟩
 obtain ⟨sf46, hsf47, hm⟩ := loop1_s hm; unfold m54_overflightref37_Valid_B1 at hm
 subst hEbs; rw [hfr53.eq]; clear hfr53
 replace Fa := Fa.step hst52; replace Fb := Fb.step hst52; replace ch30 := ch30.trans hst52
 have ch55 := hst52
 refine Wp_seq (Wp_seq (Wp_region ?_))
 refine Rg_op rfl (op_move (v := (Value.int .i64 k_1)) rfl ?_)
 refine Rg_op rfl (op_fieldAddr ty25 rfl ty3 (by decide) rfl (rfl : _ = (⟨_, 0, none⟩ : Addr)) ?_)
 refine Rg_op rfl (op_load (cs := [(Value.int .i64 r_.slots), (Value.slice Aa r_.owners.length Ca), (Value.slice Ab r_.costs.length Cb)]) (i := 0) ty3 hs51 rfl rfl rfl ?_)
 refine Rg_op rfl (op_lss rfl rfl ?_)
 refine Rg_nil ?_
 refine Wp_cond rfl (fun hc56 => ?_) (fun hc56 => ?_)
 replace hm := bif_t hm hc56
 refine Wp_skip (Wp_seq (Wp_block ?_))
 refine Wp_reset2 [2, 4, 62, 63, 64, 65, 66, 67, 68, 69, 70, 71, 72, 73, 74, 75, 76, 77, 78, 79, 80, 81, 82, 83, 84, 85, 86, 87, 88, 89, 90, 91, 92, 93, 94, 95, 96, 97, 98, 99, 100, 101, 102, 103] [] (updL (mix [2, 3, 4, 30, 31, 32, 33, 34, 35, 36, 37, 38, 39, 40, 41, 42, 43, 44, 45, 46, 47, 48, 49, 50, 51, 52, 53, 54, 55, 56, 57, 58, 59, 60, 61, 62, 63, 64, 65, 66, 67, 68, 69, 70, 71, 72, 73, 74, 75, 76, 77, 78, 79, 80, 81, 82, 83, 84, 85, 86, 87, 88, 89, 90, 91, 92, 93, 94, 95, 96, 97, 98, 99, 100, 101, 102, 103] [] ξ45 (updL ⟨ξ20, []⟩ [(1, (Value.pointer (some ⟨b1, 0, none⟩))), (3, (Value.int .i64 0))])) [(3, (Value.int .i64 i_1)), (4, (Value.int .i64 0))]) [(4, (Value.int .i64 k_1))] (by repeat (first | with_reducible exact Out.refl _ _ | refine Out.upd ?_ rfl | refine Out.updL ?_ rfl | refine Out.mix' ?_ rfl | exact Out.refl _ _)) rfl ⟨rfl, trivial⟩ fun ξ57 => ?_
 replace hm := jn_elim hm; obtain ⟨k59, hk60, hm⟩ := hm
 refine Wp_seqJ [68, 69, 70, 71, 72, 73, 74, 75, 76, 77, 78, 79, 80, 81, 82, 83, 84, 85, 86, 87, 88, 89, 90, 91, 92, 93, 94, 95, 96, 97, 98, 99, 100, 101, 102, 103] (fun fr w' => ∃ (v_3 : Bool) (Ebs : Ents), Ebs = [(some b1, Obj.cells [(Value.int .i64 r_.slots), (Value.slice Aa r_.owners.length Ca), (Value.slice Ab r_.costs.length Cb)].toArray 25)] ∧ fr [] [(103, (Value.bool v_3))] ∧ Step (ks [(some b1, Obj.cells [(Value.int .i64 r_.slots), (Value.slice Aa r_.owners.length Ca), (Value.slice Ab r_.costs.length Cb)].toArray 25)] O) w50 (ks Ebs O) w' ∧ St ⟨w, [], []⟩ O w' Ebs ∧ k59 v_3 = some x) ?_ ?_
 rintro ρ66 w62 ⟨v_3, Ebs, hEbs, hfr65, hst64, hs63, hm⟩
 replace hm := jnE1 hk60 hm
 subst hEbs; rw [hfr65.eq]; clear hfr65
 replace Fa := Fa.step hst64; replace Fb := Fb.step hst64; replace ch30 := ch30.trans hst64; replace ch55 := ch55.trans hst64; clear hst64 hs51
 refine Wp_cond rfl (fun hc67 => ?_) (fun hc67 => ?_)
 replace hm := bif_t hm hc67
 refine Wp_seq (Wp_region ?_)
 refine Rg_op rfl (op_assign (v := (Value.bool false)) rfl ?_)
 refine Rg_nil ?_
 refine Wp_ret ?_
 have hz := step_all hs63
 replace Fa := Fa.step hz; replace Fb := Fb.step hz
 refine ⟨_, (show Closes [] _ _ from rfl), [(Value.bool false)], ⟨rfl, trivial⟩, hs63.ext, ?_⟩
 exact Vr.eq (a := vB) (x := false) rfl (Option.some.inj hm)
 replace hm := bif_f hm hc67
 refine Wp_skip (Wp_region ?_)
 refine Rg_op rfl (op_move (v := (Value.int .i64 k_1)) rfl ?_)
 refine Rg_op rfl (op_addw rfl rfl ?_)
 refine Rg_op rfl (op_assign (v := (Value.int .i64 (IntKind.wrap .i64 (k_1 + 1)))) rfl ?_)
 refine Rg_nil ?_
 exact hK48 _ _ ⟨(IntKind.wrap .i64 (k_1 + 1)), _, rfl, ⟨(by repeat (first | with_reducible exact Out.refl _ _ | refine Out.upd ?_ rfl | refine Out.updL ?_ rfl | refine Out.mix' ?_ rfl | exact Out.refl _ _)), rfl, rfl, trivial⟩, ch55, hs63, (inK_wrap .i64 _), jnE1 hsf47 hm⟩
 intro K61 hK61
 have ch68 := Step.refl (ks [(some b1, Obj.cells [(Value.int .i64 r_.slots), (Value.slice Aa r_.owners.length Ca), (Value.slice Ab r_.costs.length Cb)].toArray 25)] O) w50
 refine Wp_region ?_
 refine Rg_op rfl (op_fieldAddr ty25 rfl ty23 (by decide) rfl (rfl : _ = (⟨_, 2, none⟩ : Addr)) ?_)
 refine Rg_op rfl (op_load (cs := [(Value.int .i64 r_.slots), (Value.slice Aa r_.owners.length Ca), (Value.slice Ab r_.costs.length Cb)]) (i := 0) ty23 hs51 rfl rfl rfl ?_)
 refine Rg_op rfl (op_move (v := (Value.int .i64 i_1)) rfl ?_)
 replace hm := ck_some hm; obtain ⟨hc69, hm⟩ := hm
 refine Rg_op rfl (op_indexAddr (q := (rSl (rInt .i64))) ty23 ty22 rfl rfl Fb rfl hc69.1 hc69.2 ?_)
 intro p70 f71
 refine Rg_op rfl (op_loadP ty22 rfl f71 rfl ?_)
 intro v72 h73
 obtain ⟨Ac, Cc, rfl, Fc⟩ := un_sl h73
 refine Rg_op rfl (op_move (v := (Value.int .i64 k_1)) rfl ?_)
 replace hm := ck_some hm; obtain ⟨hc75, hm⟩ := hm
 refine Rg_op rfl (op_indexAddr (q := (rInt .i64)) ty22 ty3 rfl rfl Fc rfl hc75.1 hc75.2 ?_)
 intro p76 f77
 refine Rg_op rfl (op_loadP ty3 rfl f77 rfl ?_)
 intro v78 h79
 obtain ⟨rfl, Rd⟩ := un_int h79
 refine Rg_op rfl (op_lss rfl rfl ?_)
 refine Rg_op rfl (op_move (v := (Value.bool (decide (((r_.costs.getD i_1.toNat default).getD k_1.toNat default) < (-1))))) rfl ?_)
 refine Rg_case (fun hg81 => ?_) (fun hg81 => ?_)
 replace hm := bif_t hm hg81
 iterate 9 refine Rg_opx rfl (asB_ne rfl rfl) rfl ?_
 refine Rg_op rfl (op_pick_t (v := (Value.bool true)) rfl rfl ?_)
 refine Rg_op rfl (op_move (v := (Value.bool true)) rfl ?_)
 iterate 14 refine Rg_opx rfl (asB_ne rfl rfl) rfl ?_
 refine Rg_op rfl (op_pick_t (v := (Value.bool true)) rfl rfl ?_)
 refine Rg_nil ?_
 exact hK61 _ _ ⟨true, _, rfl, ⟨(by repeat (first | with_reducible exact Out.refl _ _ | refine Out.upd ?_ rfl | refine Out.updL ?_ rfl | refine Out.mix' ?_ rfl | exact Out.refl _ _)), rfl, rfl, trivial⟩, ch68, hs51, hm⟩
 replace hm := bif_f hm hg81
 refine Rg_opg rfl rfl rfl (op_fieldAddr ty25 rfl ty23 (by decide) rfl (rfl : _ = (⟨_, 2, none⟩ : Addr)) ?_)
 refine Rg_opg rfl rfl rfl (op_load (cs := [(Value.int .i64 r_.slots), (Value.slice Aa r_.owners.length Ca), (Value.slice Ab r_.costs.length Cb)]) (i := 0) ty23 hs51 rfl rfl rfl ?_)
 refine Rg_opg rfl rfl rfl (op_move (v := (Value.int .i64 i_1)) rfl ?_)
 replace hm := ck_some hm; obtain ⟨hc82, hm⟩ := hm
 refine Rg_opg rfl rfl rfl (op_indexAddr (q := (rSl (rInt .i64))) ty23 ty22 rfl rfl Fb rfl hc82.1 hc82.2 ?_)
 intro p83 f84
 refine Rg_opg rfl rfl rfl (op_loadP ty22 rfl f84 rfl ?_)
 intro v85 h86
 obtain ⟨Ad, Cd, rfl, Fd⟩ := un_sl h86
 refine Rg_opg rfl rfl rfl (op_move (v := (Value.int .i64 k_1)) rfl ?_)
 replace hm := ck_some hm; obtain ⟨hc88, hm⟩ := hm
 refine Rg_opg rfl rfl rfl (op_indexAddr (q := (rInt .i64)) ty22 ty3 rfl rfl Fd rfl hc88.1 hc88.2 ?_)
 intro p89 f90
 refine Rg_opg rfl rfl rfl (op_loadP ty3 rfl f90 rfl ?_)
 intro v91 h92
 obtain ⟨rfl, Re⟩ := un_int h92
 refine Rg_opg rfl rfl rfl (op_gtr rfl rfl ?_)
 refine Rg_op rfl (op_pick_f (v := (Value.bool (decide (1048576 < ((r_.costs.getD i_1.toNat default).getD k_1.toNat default))))) rfl rfl ?_)
 refine Rg_op rfl (op_move (v := (Value.bool (decide (1048576 < ((r_.costs.getD i_1.toNat default).getD k_1.toNat default))))) rfl ?_)
 refine Rg_case (fun hg94 => ?_) (fun hg94 => ?_)
 replace hm := bif_t hm hg94
 iterate 14 refine Rg_opx rfl (asB_ne rfl rfl) rfl ?_
 refine Rg_op rfl (op_pick_t (v := (Value.bool true)) rfl rfl ?_)
 refine Rg_nil ?_
 exact hK61 _ _ ⟨true, _, rfl, ⟨(by repeat (first | with_reducible exact Out.refl _ _ | refine Out.upd ?_ rfl | refine Out.updL ?_ rfl | refine Out.mix' ?_ rfl | exact Out.refl _ _)), rfl, rfl, trivial⟩, ch68, hs51, hm⟩
 replace hm := bif_f hm hg94
 refine Rg_opg rfl rfl rfl (op_move (v := (Value.int .i64 k_1)) rfl ?_)
 refine Rg_opg rfl rfl rfl (op_move (v := (Value.int .i64 i_1)) rfl ?_)
 refine Rg_opg rfl rfl rfl (op_eql rfl rfl ?_)
 refine Rg_opg rfl rfl rfl (op_move (v := (Value.bool (decide (k_1 = i_1)))) rfl ?_)
 refine Rg_case (fun hg95 => ?_) (fun hg95 => ?_)
 replace hm := bif_t hm hg95
 refine Rg_opg rfl rfl rfl (op_fieldAddr ty25 rfl ty23 (by decide) rfl (rfl : _ = (⟨_, 2, none⟩ : Addr)) ?_)
 refine Rg_opg rfl rfl rfl (op_load (cs := [(Value.int .i64 r_.slots), (Value.slice Aa r_.owners.length Ca), (Value.slice Ab r_.costs.length Cb)]) (i := 0) ty23 hs51 rfl rfl rfl ?_)
 refine Rg_opg rfl rfl rfl (op_move (v := (Value.int .i64 i_1)) rfl ?_)
 replace hm := ck_some hm; obtain ⟨hc96, hm⟩ := hm
 refine Rg_opg rfl rfl rfl (op_indexAddr (q := (rSl (rInt .i64))) ty23 ty22 rfl rfl Fb rfl hc96.1 hc96.2 ?_)
 intro p97 f98
 refine Rg_opg rfl rfl rfl (op_loadP ty22 rfl f98 rfl ?_)
 intro v99 h100
 obtain ⟨Ae, Ce, rfl, Fe⟩ := un_sl h100
 refine Rg_opg rfl rfl rfl (op_move (v := (Value.int .i64 k_1)) rfl ?_)
 replace hm := ck_some hm; obtain ⟨hc102, hm⟩ := hm
 refine Rg_opg rfl rfl rfl (op_indexAddr (q := (rInt .i64)) ty22 ty3 rfl rfl Fe rfl hc102.1 hc102.2 ?_)
 intro p103 f104
 refine Rg_opg rfl rfl rfl (op_loadP ty3 rfl f104 rfl ?_)
 intro v105 h106
 obtain ⟨rfl, Rf⟩ := un_int h106
 refine Rg_opg rfl rfl rfl (op_lss rfl rfl ?_)
 refine Rg_opg rfl rfl rfl (op_pick_t (v := (Value.bool (decide (((r_.costs.getD i_1.toNat default).getD k_1.toNat default) < 0)))) rfl rfl ?_)
 refine Rg_op rfl (op_pick_f (v := (Value.bool (decide (((r_.costs.getD i_1.toNat default).getD k_1.toNat default) < 0)))) rfl rfl ?_)
 refine Rg_nil ?_
 exact hK61 _ _ ⟨(decide (((r_.costs.getD i_1.toNat default).getD k_1.toNat default) < 0)), _, rfl, ⟨(by repeat (first | with_reducible exact Out.refl _ _ | refine Out.upd ?_ rfl | refine Out.updL ?_ rfl | refine Out.mix' ?_ rfl | exact Out.refl _ _)), rfl, rfl, trivial⟩, ch68, hs51, hm⟩
 replace hm := bif_f hm hg95
 iterate 9 refine Rg_opx rfl (asB_ne rfl rfl) rfl ?_
 refine Rg_opg rfl rfl rfl (op_pick_f (v := (Value.bool false)) rfl rfl ?_)
 refine Rg_op rfl (op_pick_f (v := (Value.bool false)) rfl rfl ?_)
 refine Rg_nil ?_
 exact hK61 _ _ ⟨false, _, rfl, ⟨(by repeat (first | with_reducible exact Out.refl _ _ | refine Out.upd ?_ rfl | refine Out.updL ?_ rfl | refine Out.mix' ?_ rfl | exact Out.refl _ _)), rfl, rfl, trivial⟩, ch68, hs51, hm⟩
 replace hm := bif_f hm hc56
 refine Wp_exit (Wp_region ?_)
 refine Rg_op rfl (op_move (v := (Value.int .i64 i_1)) rfl ?_)
 refine Rg_op rfl (op_addw rfl rfl ?_)
 refine Rg_op rfl (op_assign (v := (Value.int .i64 (IntKind.wrap .i64 (i_1 + 1)))) rfl ?_)
 refine Rg_nil ?_
 exact hK23 _ _ ⟨(IntKind.wrap .i64 (i_1 + 1)), _, rfl, ⟨(by repeat (first | with_reducible exact Out.refl _ _ | refine Out.upd ?_ rfl | refine Out.updL ?_ rfl | refine Out.mix' ?_ rfl | exact Out.refl _ _)), rfl, rfl, trivial⟩, ch30, hs51, (inK_wrap .i64 _), jnE1 hsf22 hm⟩
 intro K37 hK37
 have ch108 := Step.refl (ks [(some b1, Obj.cells [(Value.int .i64 r_.slots), (Value.slice Aa r_.owners.length Ca), (Value.slice Ab r_.costs.length Cb)].toArray 25)] O) w25
 refine Wp_drawR (g0 := []) (m := 23) (fl := []) (TS_inv hs26) rfl (.inl rfl) rfl (by decide +kernel) ?_  -- 6
 refine Dw_eq (Value.pointer (some ⟨b1, 1, none⟩)) (fun ρ109 w110 g hle hi ht => ?_) ?_
 obtain ⟨-, hst, -⟩ := hle
 refine StepOp_plain (op_fieldAddr ty25 rfl ty22 (by decide) (ht 1 rfl) (rfl : _ = (⟨_, 1, none⟩ : Addr)) ?_)
 exact Goes.same hi rfl
 refine Dw_eq (Value.slice Aa r_.owners.length Ca) (fun ρ112 w113 g hle hi ht => ?_) ?_
 obtain ⟨-, hst, -⟩ := hle
 have hsn := (Step.nx hi).1
 refine StepOp_plain (op_load (cs := [(Value.int .i64 r_.slots), (Value.slice Aa r_.owners.length Ca), (Value.slice Ab r_.costs.length Cb)]) (i := 0) ty22 hsn (ht 37 rfl) rfl rfl ?_)
 exact Goes.same hi rfl
 refine Dw_eq (Value.int .i64 i_1) (fun ρ115 w116 g hle hi ht => ?_) ?_
 obtain ⟨-, hst, -⟩ := hle
 refine StepOp_plain (op_move (v := (Value.int .i64 i_1)) (ht 3 rfl) ?_)
 exact Goes.same hi rfl
 replace hm := ck_some hm; obtain ⟨hc121, hm⟩ := hm
 refine Dw_op (VP O [(some b1, Obj.cells [(Value.int .i64 r_.slots), (Value.slice Aa r_.owners.length Ca), (Value.slice Ab r_.costs.length Cb)].toArray 25)] (rInt .i64) (r_.owners.getD i_1.toNat default)) (VP.stab _ _) (fun ρ118 w119 g hle hi ht => ?_) ?_
 obtain ⟨-, hst, -⟩ := hle
 replace Fa := Fa.step hst
 refine StepOp_plain (op_indexAddr (q := (rInt .i64)) ty22 ty3 (ht 38 rfl) (ht 39 rfl) Fa rfl hc121.1 hc121.2 ?_)
 intro p122 f123
 exact Goes.same hi ⟨_, rfl, f123⟩
 refine Dw_op (VD O [(some b1, Obj.cells [(Value.int .i64 r_.slots), (Value.slice Aa r_.owners.length Ca), (Value.slice Ab r_.costs.length Cb)].toArray 25)] (vI .i64) (r_.owners.getD i_1.toNat default)) (VD.stab _ _) (fun ρ124 w125 g hle hi ht => ?_) ?_
 obtain ⟨-, hst, -⟩ := hle
 obtain ⟨p127, q128, f129⟩ := ht 40 rfl
 refine StepOp_plain (op_loadP ty3 q128 f129 rfl ?_)
 intro v130 h131
 obtain ⟨rfl, Rg⟩ := un_int h131
 exact Goes.same hi (show Vr.vd (vI .i64) _ _ _ _ from ⟨rfl, Rg⟩)
 refine Dw_eq (Value.bool (decide ((r_.owners.getD i_1.toNat default) < 0))) (fun ρ133 w134 g hle hi ht => ?_) ?_
 obtain ⟨-, hst, -⟩ := hle
 have h136 : Vr.vd (vI .i64) _ _ _ _ := ht 41 rfl
 obtain ⟨q137, Rh⟩ := h136
 refine StepOp_plain (op_lss q137 rfl ?_)
 exact Goes.same hi rfl
 refine Dw_opB (decide ((r_.owners.getD i_1.toNat default) < 0)) (fun ρ139 w140 g hle hi ht => ?_) (fun hg142 => ?_) (fun hg142 => ?_)
 obtain ⟨-, hst, -⟩ := hle
 refine StepOp_plain (op_move (v := (Value.bool (decide ((r_.owners.getD i_1.toNat default) < 0)))) (ht 42 rfl) ?_)
 exact Goes.same hi rfl
 replace hm := bif_t hm hg142
 refine Dw_skip (fun _ _ _ ht => wanted_x rfl (ht 43 rfl) rfl) ?_
 refine Dw_skip (fun _ _ _ ht => wanted_x rfl (ht 43 rfl) rfl) ?_
 refine Dw_skip (fun _ _ _ ht => wanted_x rfl (ht 43 rfl) rfl) ?_
 refine Dw_skip (fun _ _ _ ht => wanted_x rfl (ht 43 rfl) rfl) ?_
 refine Dw_skip (fun _ _ _ ht => wanted_x rfl (ht 43 rfl) rfl) ?_
 refine Dw_skip (fun _ _ _ ht => wanted_x rfl (ht 43 rfl) rfl) ?_
 refine Dw_eq (Value.bool true) (fun ρ143 w144 g hle hi ht => ?_) ?_
 obtain ⟨-, hst, -⟩ := hle
 refine StepOp_plain (op_pick_t (v := (Value.bool true)) (ht 43 rfl) rfl ?_)
 exact Goes.same hi rfl
 refine Dw_eq (Value.bool true) (fun ρ146 w147 g hle hi ht => ?_) ?_
 obtain ⟨-, hst, -⟩ := hle
 refine StepOp_plain (op_move (v := (Value.bool true)) (ht 50 rfl) ?_)
 exact Goes.same hi rfl
 refine Dw_skip (fun _ _ _ ht => wanted_x rfl (ht 51 rfl) rfl) ?_
 refine Dw_skip (fun _ _ _ ht => wanted_x rfl (ht 51 rfl) rfl) ?_
 refine Dw_skip (fun _ _ _ ht => wanted_x rfl (ht 51 rfl) rfl) ?_
 refine Dw_skip (fun _ _ _ ht => wanted_x rfl (ht 51 rfl) rfl) ?_
 refine Dw_skip (fun _ _ _ ht => wanted_x rfl (ht 51 rfl) rfl) ?_
 refine Dw_skip (fun _ _ _ ht => wanted_x rfl (ht 51 rfl) rfl) ?_
 refine Dw_skip (fun _ _ _ ht => wanted_x rfl (ht 51 rfl) rfl) ?_
 refine Dw_skip (fun _ _ _ ht => wanted_x rfl (ht 51 rfl) rfl) ?_
 refine Dw_nil fun w153 g154 hl155 hi156 => ?_
 obtain ⟨-, hst157, -⟩ := hl155
 obtain ⟨hs159, p158⟩ := Step.nx hi156
 rintro _ rfl
 rintro _ rfl
 rintro _ rfl
 rintro _ rfl
 rintro _ rfl
 rintro _ rfl
 rintro _ rfl
 rintro _ rfl
 rintro _ rfl
 rintro _ rfl
 rintro _ rfl
 rintro _ rfl
 rintro _ rfl
 rintro _ rfl
 rintro _ rfl
 rintro _ rfl
 rintro _ rfl
 rintro _ rfl
 rintro v160 h161
 replace h161 : Vr.vd (vI .i64) _ _ _ _ := h161
 obtain ⟨rfl, Ri⟩ := h161
 rintro _ ⟨p163, rfl, f164⟩
 rintro _ rfl
 rintro _ rfl
 rintro _ rfl
 have p165 : Step (ks [(some b1, Obj.cells [(Value.int .i64 r_.slots), (Value.slice Aa r_.owners.length Ca), (Value.slice Ab r_.costs.length Cb)].toArray 25)] O) w25 (ks [(some b1, Obj.cells [(Value.int .i64 r_.slots), (Value.slice Aa r_.owners.length Ca), (Value.slice Ab r_.costs.length Cb)].toArray 25)] O) w153 := hst157.trans p158
 replace f164 := f164.step p158; replace Fa := Fa.step p165; replace Fb := Fb.step p165; replace ch30 := ch30.trans p165; replace ch108 := ch108.trans p165; clear p165 hs26
 refine Rg_opx rfl (asB_ne rfl rfl) rfl ?_
 refine Rg_op rfl (op_pick_t (v := (Value.bool true)) rfl rfl ?_)
 refine Rg_nil ?_
 exact hK37 _ _ ⟨true, _, rfl, ⟨(by repeat (first | with_reducible exact Out.refl _ _ | refine Out.upd ?_ rfl | refine Out.updL ?_ rfl | refine Out.mix' ?_ rfl | exact Out.refl _ _)), rfl, rfl, trivial⟩, ch108, hs159, hm⟩
 replace hm := bif_f hm hg142
 refine Dw_eq (Value.pointer (some ⟨b1, 1, none⟩)) (fun ρ166 w167 g hle hi ht => ?_) ?_
 obtain ⟨-, hst, -⟩ := hle
 refine StepOp_g rfl (ht 43 rfl) (op_fieldAddr ty25 rfl ty22 (by decide) (ht 1 rfl) (rfl : _ = (⟨_, 1, none⟩ : Addr)) ?_)
 exact Goes.same hi rfl
 refine Dw_eq (Value.slice Aa r_.owners.length Ca) (fun ρ169 w170 g hle hi ht => ?_) ?_
 obtain ⟨-, hst, -⟩ := hle
 have hsn := (Step.nx hi).1
 refine StepOp_g rfl (ht 43 rfl) (op_load (cs := [(Value.int .i64 r_.slots), (Value.slice Aa r_.owners.length Ca), (Value.slice Ab r_.costs.length Cb)]) (i := 0) ty22 hsn (ht 44 rfl) rfl rfl ?_)
 exact Goes.same hi rfl
 refine Dw_eq (Value.int .i64 i_1) (fun ρ172 w173 g hle hi ht => ?_) ?_
 obtain ⟨-, hst, -⟩ := hle
 refine StepOp_g rfl (ht 43 rfl) (op_move (v := (Value.int .i64 i_1)) (ht 3 rfl) ?_)
 exact Goes.same hi rfl
 replace hm := ck_some hm; obtain ⟨hc178, hm⟩ := hm
 refine Dw_op (VP O [(some b1, Obj.cells [(Value.int .i64 r_.slots), (Value.slice Aa r_.owners.length Ca), (Value.slice Ab r_.costs.length Cb)].toArray 25)] (rInt .i64) (r_.owners.getD i_1.toNat default)) (VP.stab _ _) (fun ρ175 w176 g hle hi ht => ?_) ?_
 obtain ⟨-, hst, -⟩ := hle
 replace Fa := Fa.step hst
 refine StepOp_g rfl (ht 43 rfl) (op_indexAddr (q := (rInt .i64)) ty22 ty3 (ht 45 rfl) (ht 46 rfl) Fa rfl hc178.1 hc178.2 ?_)
 intro p179 f180
 exact Goes.same hi ⟨_, rfl, f180⟩
 refine Dw_op (VD O [(some b1, Obj.cells [(Value.int .i64 r_.slots), (Value.slice Aa r_.owners.length Ca), (Value.slice Ab r_.costs.length Cb)].toArray 25)] (vI .i64) (r_.owners.getD i_1.toNat default)) (VD.stab _ _) (fun ρ181 w182 g hle hi ht => ?_) ?_
 obtain ⟨-, hst, -⟩ := hle
 obtain ⟨p184, q185, f186⟩ := ht 47 rfl
 refine StepOp_g rfl (ht 43 rfl) (op_loadP ty3 q185 f186 rfl ?_)
 intro v187 h188
 obtain ⟨rfl, Rj⟩ := un_int h188
 exact Goes.same hi (show Vr.vd (vI .i64) _ _ _ _ from ⟨rfl, Rj⟩)
 refine Dw_eq (Value.bool (decide (8 ≤ (r_.owners.getD i_1.toNat default)))) (fun ρ190 w191 g hle hi ht => ?_) ?_
 obtain ⟨-, hst, -⟩ := hle
 have h193 : Vr.vd (vI .i64) _ _ _ _ := ht 48 rfl
 obtain ⟨q194, Rk⟩ := h193
 refine StepOp_g rfl (ht 43 rfl) (op_geq q194 rfl ?_)
 exact Goes.same hi rfl
 refine Dw_eq (Value.bool (decide (8 ≤ (r_.owners.getD i_1.toNat default)))) (fun ρ196 w197 g hle hi ht => ?_) ?_
 obtain ⟨-, hst, -⟩ := hle
 refine StepOp_plain (op_pick_f (v := (Value.bool (decide (8 ≤ (r_.owners.getD i_1.toNat default))))) (ht 43 rfl) (ht 49 rfl) ?_)
 exact Goes.same hi rfl
 refine Dw_opB (decide (8 ≤ (r_.owners.getD i_1.toNat default))) (fun ρ199 w200 g hle hi ht => ?_) (fun hg202 => ?_) (fun hg202 => ?_)
 obtain ⟨-, hst, -⟩ := hle
 refine StepOp_plain (op_move (v := (Value.bool (decide (8 ≤ (r_.owners.getD i_1.toNat default))))) (ht 50 rfl) ?_)
 exact Goes.same hi rfl
 replace hm := bif_t hm hg202
 refine Dw_skip (fun _ _ _ ht => wanted_x rfl (ht 51 rfl) rfl) ?_
 refine Dw_skip (fun _ _ _ ht => wanted_x rfl (ht 51 rfl) rfl) ?_
 refine Dw_skip (fun _ _ _ ht => wanted_x rfl (ht 51 rfl) rfl) ?_
 refine Dw_skip (fun _ _ _ ht => wanted_x rfl (ht 51 rfl) rfl) ?_
 refine Dw_skip (fun _ _ _ ht => wanted_x rfl (ht 51 rfl) rfl) ?_
 refine Dw_skip (fun _ _ _ ht => wanted_x rfl (ht 51 rfl) rfl) ?_
 refine Dw_skip (fun _ _ _ ht => wanted_x rfl (ht 51 rfl) rfl) ?_
 refine Dw_skip (fun _ _ _ ht => wanted_x rfl (ht 51 rfl) rfl) ?_
 refine Dw_nil fun w207 g208 hl209 hi210 => ?_
 obtain ⟨-, hst211, -⟩ := hl209
 obtain ⟨hs213, p212⟩ := Step.nx hi210
 rintro _ rfl
 rintro _ rfl
 rintro _ rfl
 rintro _ rfl
 rintro _ rfl
 rintro _ rfl
 rintro _ rfl
 rintro _ rfl
 rintro _ rfl
 rintro _ rfl
 rintro _ rfl
 rintro v214 h215
 replace h215 : Vr.vd (vI .i64) _ _ _ _ := h215
 obtain ⟨rfl, Rl⟩ := h215
 rintro _ ⟨p217, rfl, f218⟩
 rintro _ rfl
 rintro _ rfl
 rintro _ rfl
 rintro _ rfl
 rintro _ rfl
 rintro v219 h220
 replace h220 : Vr.vd (vI .i64) _ _ _ _ := h220
 obtain ⟨rfl, Rm⟩ := h220
 rintro _ ⟨p222, rfl, f223⟩
 rintro _ rfl
 rintro _ rfl
 rintro _ rfl
 have p224 : Step (ks [(some b1, Obj.cells [(Value.int .i64 r_.slots), (Value.slice Aa r_.owners.length Ca), (Value.slice Ab r_.costs.length Cb)].toArray 25)] O) w25 (ks [(some b1, Obj.cells [(Value.int .i64 r_.slots), (Value.slice Aa r_.owners.length Ca), (Value.slice Ab r_.costs.length Cb)].toArray 25)] O) w207 := hst211.trans p212
 replace f218 := f218.step p212; replace f223 := f223.step p212; replace Fa := Fa.step p224; replace Fb := Fb.step p224; replace ch30 := ch30.trans p224; replace ch108 := ch108.trans p224; clear p224 hs26
 refine Rg_opx rfl (asB_ne rfl rfl) rfl ?_
 refine Rg_op rfl (op_pick_t (v := (Value.bool true)) rfl rfl ?_)
 refine Rg_nil ?_
 exact hK37 _ _ ⟨true, _, rfl, ⟨(by repeat (first | with_reducible exact Out.refl _ _ | refine Out.upd ?_ rfl | refine Out.updL ?_ rfl | refine Out.mix' ?_ rfl | exact Out.refl _ _)), rfl, rfl, trivial⟩, ch108, hs213, hm⟩
 replace hm := bif_f hm hg202
 refine Dw_eq (Value.pointer (some ⟨b1, 2, none⟩)) (fun ρ225 w226 g hle hi ht => ?_) ?_
 obtain ⟨-, hst, -⟩ := hle
 refine StepOp_g rfl (ht 51 rfl) (op_fieldAddr ty25 rfl ty23 (by decide) (ht 1 rfl) (rfl : _ = (⟨_, 2, none⟩ : Addr)) ?_)
 exact Goes.same hi rfl
 refine Dw_eq (Value.slice Ab r_.costs.length Cb) (fun ρ228 w229 g hle hi ht => ?_) ?_
 obtain ⟨-, hst, -⟩ := hle
 have hsn := (Step.nx hi).1
 refine StepOp_g rfl (ht 51 rfl) (op_load (cs := [(Value.int .i64 r_.slots), (Value.slice Aa r_.owners.length Ca), (Value.slice Ab r_.costs.length Cb)]) (i := 0) ty23 hsn (ht 52 rfl) rfl rfl ?_)
 exact Goes.same hi rfl
 refine Dw_eq (Value.int .i64 i_1) (fun ρ231 w232 g hle hi ht => ?_) ?_
 obtain ⟨-, hst, -⟩ := hle
 refine StepOp_g rfl (ht 51 rfl) (op_move (v := (Value.int .i64 i_1)) (ht 3 rfl) ?_)
 exact Goes.same hi rfl
 replace hm := ck_some hm; obtain ⟨hc237, hm⟩ := hm
 refine Dw_op (VP O [(some b1, Obj.cells [(Value.int .i64 r_.slots), (Value.slice Aa r_.owners.length Ca), (Value.slice Ab r_.costs.length Cb)].toArray 25)] (rSl (rInt .i64)) (r_.costs.getD i_1.toNat default)) (VP.stab _ _) (fun ρ234 w235 g hle hi ht => ?_) ?_
 obtain ⟨-, hst, -⟩ := hle
 replace Fb := Fb.step hst
 refine StepOp_g rfl (ht 51 rfl) (op_indexAddr (q := (rSl (rInt .i64))) ty23 ty22 (ht 53 rfl) (ht 54 rfl) Fb rfl hc237.1 hc237.2 ?_)
 intro p238 f239
 exact Goes.same hi ⟨_, rfl, f239⟩
 refine Dw_op (VD O [(some b1, Obj.cells [(Value.int .i64 r_.slots), (Value.slice Aa r_.owners.length Ca), (Value.slice Ab r_.costs.length Cb)].toArray 25)] (vC (rSl (rInt .i64))) (r_.costs.getD i_1.toNat default)) (VD.stab _ _) (fun ρ240 w241 g hle hi ht => ?_) ?_
 obtain ⟨-, hst, -⟩ := hle
 obtain ⟨p243, q244, f245⟩ := ht 55 rfl
 refine StepOp_g rfl (ht 51 rfl) (op_loadP ty22 q244 f245 rfl ?_)
 intro v246 h247
 obtain ⟨Af, Cf, rfl, Ff⟩ := un_sl h247
 exact Goes.same hi (show Vr.vd (vC (rSl (rInt .i64))) _ _ _ _ from (mkC (mk_sl Ff)))
 refine Dw_op (VD O [(some b1, Obj.cells [(Value.int .i64 r_.slots), (Value.slice Aa r_.owners.length Ca), (Value.slice Ab r_.costs.length Cb)].toArray 25)] (vI .i64) ((r_.costs.getD i_1.toNat default).length : Int)) (VD.stab _ _) (fun ρ249 w250 g hle hi ht => ?_) ?_
 obtain ⟨-, hst, -⟩ := hle
 have h252 : Vr.vd (vC (rSl (rInt .i64))) _ _ _ _ := ht 56 rfl
 obtain ⟨Ag, Cg, q253, Fg⟩ := un_sl h252
 refine StepOp_g rfl (ht 51 rfl) (op_len Try.underlying22 q253 ?_)
 exact Goes.same hi (show Vr.vd (vI .i64) _ _ _ _ from ⟨rfl, (inK_len Fg)⟩)
 refine Dw_eq (Value.pointer (some ⟨b1, 0, none⟩)) (fun ρ255 w256 g hle hi ht => ?_) ?_
 obtain ⟨-, hst, -⟩ := hle
 refine StepOp_g rfl (ht 51 rfl) (op_fieldAddr ty25 rfl ty3 (by decide) (ht 1 rfl) (rfl : _ = (⟨_, 0, none⟩ : Addr)) ?_)
 exact Goes.same hi rfl
 refine Dw_eq (Value.int .i64 r_.slots) (fun ρ258 w259 g hle hi ht => ?_) ?_
 obtain ⟨-, hst, -⟩ := hle
 have hsn := (Step.nx hi).1
 refine StepOp_g rfl (ht 51 rfl) (op_load (cs := [(Value.int .i64 r_.slots), (Value.slice Aa r_.owners.length Ca), (Value.slice Ab r_.costs.length Cb)]) (i := 0) ty3 hsn (ht 58 rfl) rfl rfl ?_)
 exact Goes.same hi rfl
 refine Dw_nil fun w265 g266 hl267 hi268 => ?_
 obtain ⟨-, hst269, -⟩ := hl267
 obtain ⟨hs271, p270⟩ := Step.nx hi268
 rintro _ rfl
 rintro _ rfl
 rintro v272 h273
 replace h273 : Vr.vd (vI .i64) _ _ _ _ := h273
 obtain ⟨rfl, Rn⟩ := h273
 rintro v275 h276
 replace h276 : Vr.vd (vC (rSl (rInt .i64))) _ _ _ _ := h276
 obtain ⟨Ah, Ch, rfl, Fh⟩ := un_sl h276
 rintro _ ⟨p278, rfl, f279⟩
 rintro _ rfl
 rintro _ rfl
 rintro _ rfl
 rintro _ rfl
 rintro _ rfl
 rintro _ rfl
 rintro v280 h281
 replace h281 : Vr.vd (vI .i64) _ _ _ _ := h281
 obtain ⟨rfl, Ro⟩ := h281
 rintro _ ⟨p283, rfl, f284⟩
 rintro _ rfl
 rintro _ rfl
 rintro _ rfl
 rintro _ rfl
 rintro _ rfl
 rintro v285 h286
 replace h286 : Vr.vd (vI .i64) _ _ _ _ := h286
 obtain ⟨rfl, Rp⟩ := h286
 rintro _ ⟨p288, rfl, f289⟩
 rintro _ rfl
 rintro _ rfl
 rintro _ rfl
 have p290 : Step (ks [(some b1, Obj.cells [(Value.int .i64 r_.slots), (Value.slice Aa r_.owners.length Ca), (Value.slice Ab r_.costs.length Cb)].toArray 25)] O) w25 (ks [(some b1, Obj.cells [(Value.int .i64 r_.slots), (Value.slice Aa r_.owners.length Ca), (Value.slice Ab r_.costs.length Cb)].toArray 25)] O) w265 := hst269.trans p270
 replace Fh := Fh.step p270; replace f279 := f279.step p270; replace f284 := f284.step p270; replace f289 := f289.step p270; replace Fa := Fa.step p290; replace Fb := Fb.step p290; replace ch30 := ch30.trans p290; replace ch108 := ch108.trans p290; clear p290 hs26
 refine Rg_opg rfl rfl rfl (op_neq rfl rfl ?_)
 refine Rg_op rfl (op_pick_f (v := (Value.bool (decide (((r_.costs.getD i_1.toNat default).length : Int) ≠ r_.slots)))) rfl rfl ?_)
 refine Rg_nil ?_
 exact hK37 _ _ ⟨(decide (((r_.costs.getD i_1.toNat default).length : Int) ≠ r_.slots)), _, rfl, ⟨(by repeat (first | with_reducible exact Out.refl _ _ | refine Out.upd ?_ rfl | refine Out.updL ?_ rfl | refine Out.mix' ?_ rfl | exact Out.refl _ _)), rfl, rfl, trivial⟩, ch108, hs271, hm⟩
 replace hm := bif_f hm hc32
 refine Wp_exit (Wp_seq ?_)
 obtain ⟨hs291, p292⟩ := hs26.sub (bs' := []) (.cons _ List.Sublist.slnil)
 clear Fa Fb
 replace ch30 := ch30.trans p292; clear p292 hs26
 refine Wp_region ?_
 refine Rg_op rfl (op_assign (v := (Value.bool true)) rfl ?_)
 refine Rg_nil ?_
 refine Wp_ret ?_
 have hz := step_all hs291
 refine ⟨_, (show Closes [] _ _ from rfl), [(Value.bool true)], ⟨rfl, trivial⟩, hs291.ext, ?_⟩
 exact Vr.eq (a := vB) (x := true) rfl (Option.some.inj hm)
 intro K10 hK10
 have ch293 := Step.refl (ks [(some b1, Obj.cells [(Value.int .i64 r_.slots), (Value.slice Aa r_.owners.length Ca), (Value.slice Ab r_.costs.length Cb)].toArray 25)] O) w2
 refine Wp_region ?_
 refine Rg_op rfl (op_fieldAddr ty25 rfl ty3 (by decide) rfl (rfl : _ = (⟨_, 0, none⟩ : Addr)) ?_)
 refine Rg_op rfl (op_load (cs := [(Value.int .i64 r_.slots), (Value.slice Aa r_.owners.length Ca), (Value.slice Ab r_.costs.length Cb)]) (i := 0) ty3 hs4 rfl rfl rfl ?_)
 refine Rg_op rfl (op_lss rfl rfl ?_)
 refine Rg_op rfl (op_move (v := (Value.bool (decide (r_.slots < 1)))) rfl ?_)
 refine Rg_case (fun hg294 => ?_) (fun hg294 => ?_)
 replace hm := bif_t hm hg294
 iterate 3 refine Rg_opx rfl (asB_ne rfl rfl) rfl ?_
 refine Rg_op rfl (op_pick_t (v := (Value.bool true)) rfl rfl ?_)
 refine Rg_op rfl (op_move (v := (Value.bool true)) rfl ?_)
 iterate 6 refine Rg_opx rfl (asB_ne rfl rfl) rfl ?_
 refine Rg_op rfl (op_pick_t (v := (Value.bool true)) rfl rfl ?_)
 refine Rg_op rfl (op_move (v := (Value.bool true)) rfl ?_)
 iterate 7 refine Rg_opx rfl (asB_ne rfl rfl) rfl ?_
 refine Rg_op rfl (op_pick_t (v := (Value.bool true)) rfl rfl ?_)
 refine Rg_nil ?_
 exact hK10 _ _ ⟨true, _, rfl, ⟨(by repeat (first | with_reducible exact Out.refl _ _ | refine Out.upd ?_ rfl | refine Out.updL ?_ rfl | refine Out.mix' ?_ rfl | exact Out.refl _ _)), rfl, rfl, trivial⟩, ch293, hs4, hm⟩
 replace hm := bif_f hm hg294
 refine Rg_opg rfl rfl rfl (op_fieldAddr ty25 rfl ty3 (by decide) rfl (rfl : _ = (⟨_, 0, none⟩ : Addr)) ?_)
 refine Rg_opg rfl rfl rfl (op_load (cs := [(Value.int .i64 r_.slots), (Value.slice Aa r_.owners.length Ca), (Value.slice Ab r_.costs.length Cb)]) (i := 0) ty3 hs4 rfl rfl rfl ?_)
 refine Rg_opg rfl rfl rfl (op_gtr rfl rfl ?_)
 refine Rg_op rfl (op_pick_f (v := (Value.bool (decide (8 < r_.slots)))) rfl rfl ?_)
 refine Rg_op rfl (op_move (v := (Value.bool (decide (8 < r_.slots)))) rfl ?_)
 refine Rg_case (fun hg295 => ?_) (fun hg295 => ?_)
 replace hm := bif_t hm hg295
 iterate 6 refine Rg_opx rfl (asB_ne rfl rfl) rfl ?_
 refine Rg_op rfl (op_pick_t (v := (Value.bool true)) rfl rfl ?_)
 refine Rg_op rfl (op_move (v := (Value.bool true)) rfl ?_)
 iterate 7 refine Rg_opx rfl (asB_ne rfl rfl) rfl ?_
 refine Rg_op rfl (op_pick_t (v := (Value.bool true)) rfl rfl ?_)
 refine Rg_nil ?_
 exact hK10 _ _ ⟨true, _, rfl, ⟨(by repeat (first | with_reducible exact Out.refl _ _ | refine Out.upd ?_ rfl | refine Out.updL ?_ rfl | refine Out.mix' ?_ rfl | exact Out.refl _ _)), rfl, rfl, trivial⟩, ch293, hs4, hm⟩
 replace hm := bif_f hm hg295
 refine Rg_opg rfl rfl rfl (op_fieldAddr ty25 rfl ty22 (by decide) rfl (rfl : _ = (⟨_, 1, none⟩ : Addr)) ?_)
 refine Rg_opg rfl rfl rfl (op_load (cs := [(Value.int .i64 r_.slots), (Value.slice Aa r_.owners.length Ca), (Value.slice Ab r_.costs.length Cb)]) (i := 0) ty22 hs4 rfl rfl rfl ?_)
 refine Rg_opg rfl rfl rfl (op_len Try.underlying22 rfl ?_)
 have rl296 := inK_len Fa
 refine Rg_opg rfl rfl rfl (op_fieldAddr ty25 rfl ty3 (by decide) rfl (rfl : _ = (⟨_, 0, none⟩ : Addr)) ?_)
 refine Rg_opg rfl rfl rfl (op_load (cs := [(Value.int .i64 r_.slots), (Value.slice Aa r_.owners.length Ca), (Value.slice Ab r_.costs.length Cb)]) (i := 0) ty3 hs4 rfl rfl rfl ?_)
 refine Rg_opg rfl rfl rfl (op_gtr rfl rfl ?_)
 refine Rg_op rfl (op_pick_f (v := (Value.bool (decide (r_.slots < (r_.owners.length : Int))))) rfl rfl ?_)
 refine Rg_op rfl (op_move (v := (Value.bool (decide (r_.slots < (r_.owners.length : Int))))) rfl ?_)
 refine Rg_case (fun hg297 => ?_) (fun hg297 => ?_)
 replace hm := bif_t hm hg297
 iterate 7 refine Rg_opx rfl (asB_ne rfl rfl) rfl ?_
 refine Rg_op rfl (op_pick_t (v := (Value.bool true)) rfl rfl ?_)
 refine Rg_nil ?_
 exact hK10 _ _ ⟨true, _, rfl, ⟨(by repeat (first | with_reducible exact Out.refl _ _ | refine Out.upd ?_ rfl | refine Out.updL ?_ rfl | refine Out.mix' ?_ rfl | exact Out.refl _ _)), rfl, rfl, trivial⟩, ch293, hs4, hm⟩
 replace hm := bif_f hm hg297
 refine Rg_opg rfl rfl rfl (op_fieldAddr ty25 rfl ty23 (by decide) rfl (rfl : _ = (⟨_, 2, none⟩ : Addr)) ?_)
 refine Rg_opg rfl rfl rfl (op_load (cs := [(Value.int .i64 r_.slots), (Value.slice Aa r_.owners.length Ca), (Value.slice Ab r_.costs.length Cb)]) (i := 0) ty23 hs4 rfl rfl rfl ?_)
 refine Rg_opg rfl rfl rfl (op_len Try.underlying23 rfl ?_)
 have rl298 := inK_len Fb
 refine Rg_opg rfl rfl rfl (op_fieldAddr ty25 rfl ty22 (by decide) rfl (rfl : _ = (⟨_, 1, none⟩ : Addr)) ?_)
 refine Rg_opg rfl rfl rfl (op_load (cs := [(Value.int .i64 r_.slots), (Value.slice Aa r_.owners.length Ca), (Value.slice Ab r_.costs.length Cb)]) (i := 0) ty22 hs4 rfl rfl rfl ?_)
 refine Rg_opg rfl rfl rfl (op_len Try.underlying22 rfl ?_)
 have rl299 := inK_len Fa
 refine Rg_opg rfl rfl rfl (op_neq rfl rfl ?_)
 refine Rg_op rfl (op_pick_f (v := (Value.bool (decide ((r_.costs.length : Int) ≠ (r_.owners.length : Int))))) rfl rfl ?_)
 refine Rg_nil ?_
 exact hK10 _ _ ⟨(decide ((r_.costs.length : Int) ≠ (r_.owners.length : Int))), _, rfl, ⟨(by repeat (first | with_reducible exact Out.refl _ _ | refine Out.upd ?_ rfl | refine Out.updL ?_ rfl | refine Out.mix' ?_ rfl | exact Out.refl _ _)), rfl, rfl, trivial⟩, ch293, hs4, hm⟩

def m29_overflightref37_Few_B0 (r_ : XRound) (sf21 : Int → Option Bool) (i_1 : Int) : Option Bool :=
 bif (decide (i_1 < (r_.costs.length : Int))) then
  ck ((0 : Int) ≤ i_1 ∧ i_1 < (r_.costs.length : Int)) <|
  bif (decide (20 < ((r_.costs.getD i_1.toNat default).length : Int))) then
   some false
  else
   sf21 (IntKind.wrap .i64 (i_1 + 1))
 else
  (m54_overflightref37_Valid r_).bind fun valid_1 =>
  bif (!valid_1) then
   some true
  else
   some (decide ((r_.owners.length : Int) ≤ 5))

def m29_overflightref37_Few (r_ : XRound) : Option Bool :=
 jn (fun (v_1 : Bool) =>
  bif v_1 then
   some false
  else
   loop1 (m29_overflightref37_Few_B0 r_) (((r_.costs.length : Int) - 0).toNat + 1) 0)
 (fun k8 =>
  bif (decide (12 < (r_.owners.length : Int))) then
   k8 true
  else
   k8 (decide (12 < (r_.costs.length : Int))))

theorem c29_overflightref37_Few {w : World} {O : List Nat} {r_ : XRound} {Aa : Option Addr} {Ca : Nat} {Ab : Option Addr} {Cb : Nat} (hO : ∀ k ∈ O, k < w.heap.size) (Ra : InK .i64 r_.slots) (Fa : SlR (rInt .i64) w O Aa Ca r_.owners) (Fb : SlR (rSl (rInt .i64)) w O Ab Cb r_.costs) {x : Bool} (hm : m29_overflightref37_Few r_ = some x) :
 Ok Try.prog 29 [(Value.agg [(Value.int .i64 r_.slots), (Value.slice Aa r_.owners.length Ca), (Value.slice Ab r_.costs.length Cb)].toArray)] w O vB x := by
 unfold m29_overflightref37_Few at hm
 refine Fn_of_Wp (n := 37) (xs := [.tmp 2]) Try.func29 rfl Try.ntmps29 Try.results29 rfl ?_
 have hs := St.start hO
 refine Wp_seq (Wp_region ?_)
 refine Rg_op rfl (op_box (cs := [(Value.int .i64 r_.slots), (Value.slice Aa r_.owners.length Ca), (Value.slice Ab r_.costs.length Cb)]) hs rfl rfl ?_)
 intro b1 w2 _ p3 hs4
 replace Fa := Fa.step p3; replace Fb := Fb.step p3; clear p3
 refine Rg_op rfl (op_assign (v := (Value.bool false)) rfl ?_)
 refine Rg_nil (Wp_seq ?_)
 refine Wp_reset [] [(1, (Value.pointer (some ⟨b1, 0, none⟩)))] rfl ⟨rfl, trivial⟩ fun ξ6 => ?_
 replace hm := jn_elim hm; obtain ⟨k8, hk9, hm⟩ := hm
 refine Wp_seqJ [4, 5, 6, 7, 8, 9, 10, 11, 12, 13] (fun fr w' => ∃ (v_1 : Bool) (Ebs : Ents), Ebs = [(some b1, Obj.cells [(Value.int .i64 r_.slots), (Value.slice Aa r_.owners.length Ca), (Value.slice Ab r_.costs.length Cb)].toArray 25)] ∧ fr [] [(13, (Value.bool v_1))] ∧ Step (ks [(some b1, Obj.cells [(Value.int .i64 r_.slots), (Value.slice Aa r_.owners.length Ca), (Value.slice Ab r_.costs.length Cb)].toArray 25)] O) w2 (ks Ebs O) w' ∧ St ⟨w, [], []⟩ O w' Ebs ∧ k8 v_1 = some x) ?_ ?_
 rintro ρ15 w11 ⟨v_1, Ebs, hEbs, hfr14, hst13, hs12, hm⟩
 replace hm := jnE1 hk9 hm
 subst hEbs; rw [hfr14.eq]; clear hfr14
 replace Fa := Fa.step hst13; replace Fb := Fb.step hst13; clear hst13 hs4
 refine Wp_cond rfl (fun hc16 => ?_) (fun hc16 => ?_)
 replace hm := bif_t hm hc16
 refine Wp_seq ?_
 obtain ⟨hs17, p18⟩ := hs12.sub (bs' := []) (.cons _ List.Sublist.slnil)
 clear Fa Fb
 clear p18 hs12
 refine Wp_region ?_
 refine Rg_op rfl (op_assign (v := (Value.bool false)) rfl ?_)
 refine Rg_nil ?_
 refine Wp_ret ?_
 have hz := step_all hs17
 refine ⟨_, (show Closes [] _ _ from rfl), [(Value.bool false)], ⟨rfl, trivial⟩, hs17.ext, ?_⟩
 exact Vr.eq (a := vB) (x := false) rfl (Option.some.inj hm)
 replace hm := bif_f hm hc16
 refine Wp_skip (Wp_seq (Wp_seq (Wp_region ?_)))
 refine Rg_op rfl (op_assign (v := (Value.int .i64 0)) rfl ?_)
 refine Rg_nil (Wp_block ?_)
 refine Wp_reset [] [(1, (Value.pointer (some ⟨b1, 0, none⟩))), (3, (Value.int .i64 0))] rfl ⟨rfl, rfl, trivial⟩ fun ξ20 => ?_
 refine Wp_loopM [2, 3, 14, 15, 16, 17, 18, 19, 20, 21, 22, 23, 24, 25, 26, 27] (fun m fr w' => ∃ (i_1 : Int) (Ebs : Ents), Ebs = [(some b1, Obj.cells [(Value.int .i64 r_.slots), (Value.slice Aa r_.owners.length Ca), (Value.slice Ab r_.costs.length Cb)].toArray 25)] ∧ fr [] [(3, (Value.int .i64 i_1))] ∧ Step (ks [(some b1, Obj.cells [(Value.int .i64 r_.slots), (Value.slice Aa r_.owners.length Ca), (Value.slice Ab r_.costs.length Cb)].toArray 25)] O) w11 (ks Ebs O) w' ∧ St ⟨w, [], []⟩ O w' Ebs ∧ InK .i64 i_1 ∧ loop1 (m29_overflightref37_Few_B0 r_) m i_1 = some x) (((r_.costs.length : Int) - 0).toNat + 1) ⟨0, _, rfl, ⟨Out.refl _ _, rfl, rfl, trivial⟩, Step.refl _ _, hs12, (show InK .i64 0 from by decide), hm⟩ ?_ ?_
 rintro _ _ ⟨_, _, _, _, _, _, _, hm⟩; exact loop1_z hm
 rintro m24 K23 hK23 ρ29 w25 ⟨i_1, Ebs, hEbs, hfr28, hst27, hs26, Rb, hm⟩
 obtain ⟨sf21, hsf22, hm⟩ := loop1_s hm; unfold m29_overflightref37_Few_B0 at hm
 subst hEbs; rw [hfr28.eq]; clear hfr28
 replace Fa := Fa.step hst27; replace Fb := Fb.step hst27
 have ch30 := hst27
 refine Wp_seq (Wp_seq (Wp_region ?_))
 refine Rg_op rfl (op_move (v := (Value.int .i64 i_1)) rfl ?_)
 refine Rg_op rfl (op_fieldAddr ty25 rfl ty23 (by decide) rfl (rfl : _ = (⟨_, 2, none⟩ : Addr)) ?_)
 refine Rg_op rfl (op_load (cs := [(Value.int .i64 r_.slots), (Value.slice Aa r_.owners.length Ca), (Value.slice Ab r_.costs.length Cb)]) (i := 0) ty23 hs26 rfl rfl rfl ?_)
 refine Rg_op rfl (op_len Try.underlying23 rfl ?_)
 have rl31 := inK_len Fb
 refine Rg_op rfl (op_lss rfl rfl ?_)
 refine Rg_nil ?_
 refine Wp_cond rfl (fun hc32 => ?_) (fun hc32 => ?_)
 replace hm := bif_t hm hc32
 refine Wp_skip (Wp_seq (Wp_block (Wp_seq (Wp_region ?_))))
 refine Rg_op rfl (op_fieldAddr ty25 rfl ty23 (by decide) rfl (rfl : _ = (⟨_, 2, none⟩ : Addr)) ?_)
 refine Rg_op rfl (op_load (cs := [(Value.int .i64 r_.slots), (Value.slice Aa r_.owners.length Ca), (Value.slice Ab r_.costs.length Cb)]) (i := 0) ty23 hs26 rfl rfl rfl ?_)
 refine Rg_op rfl (op_move (v := (Value.int .i64 i_1)) rfl ?_)
 replace hm := ck_some hm; obtain ⟨hc33, hm⟩ := hm
 refine Rg_op rfl (op_indexAddr (q := (rSl (rInt .i64))) ty23 ty22 rfl rfl Fb rfl hc33.1 hc33.2 ?_)
 intro p34 f35
 refine Rg_op rfl (op_loadP ty22 rfl f35 rfl ?_)
 intro v36 h37
 obtain ⟨Ac, Cc, rfl, Fc⟩ := un_sl h37
 refine Rg_op rfl (op_len Try.underlying22 rfl ?_)
 have rl39 := inK_len Fc
 refine Rg_op rfl (op_gtr rfl rfl ?_)
 refine Rg_nil ?_
 refine Wp_cond rfl (fun hc40 => ?_) (fun hc40 => ?_)
 replace hm := bif_t hm hc40
 refine Wp_seq ?_
 clear f35 Fc
 refine Wp_region ?_
 refine Rg_op rfl (op_assign (v := (Value.bool false)) rfl ?_)
 refine Rg_nil ?_
 refine Wp_ret ?_
 have hz := step_all hs26
 replace Fa := Fa.step hz; replace Fb := Fb.step hz
 refine ⟨_, (show Closes [] _ _ from rfl), [(Value.bool false)], ⟨rfl, trivial⟩, hs26.ext, ?_⟩
 exact Vr.eq (a := vB) (x := false) rfl (Option.some.inj hm)
 replace hm := bif_f hm hc40
 refine Wp_skip ?_
 clear f35 Fc
 refine Wp_region ?_
 refine Rg_op rfl (op_move (v := (Value.int .i64 i_1)) rfl ?_)
 refine Rg_op rfl (op_addw rfl rfl ?_)
 refine Rg_op rfl (op_assign (v := (Value.int .i64 (IntKind.wrap .i64 (i_1 + 1)))) rfl ?_)
 refine Rg_nil ?_
 exact hK23 _ _ ⟨(IntKind.wrap .i64 (i_1 + 1)), _, rfl, ⟨(by repeat (first | with_reducible exact Out.refl _ _ | refine Out.upd ?_ rfl | refine Out.updL ?_ rfl | refine Out.mix' ?_ rfl | exact Out.refl _ _)), rfl, rfl, trivial⟩, ch30, hs26, (inK_wrap .i64 _), jnE1 hsf22 hm⟩
 replace hm := bif_f hm hc32
 refine Wp_exit (Wp_seq (Wp_region ?_))
 refine Rg_op rfl (op_loadA (cs := [(Value.int .i64 r_.slots), (Value.slice Aa r_.owners.length Ca), (Value.slice Ab r_.costs.length Cb)]) (vs := [(Value.int .i64 r_.slots), (Value.slice Aa r_.owners.length Ca), (Value.slice Ab r_.costs.length Cb)]) (i := 0) ty25 hs26 rfl rfl rfl rfl ?_)
 replace hm := bd hm; obtain ⟨valid_1, hv41, hm⟩ := hm
 refine Rg_op rfl (op_call Try.call54 (c54_overflightref37_Valid (r_ := r_) hs26.ltw Ra Fa Fb hv41) rfl ?_)
 rintro v42 w43 ⟨hx44, h45⟩
 have hs46 := hs26.call hx44
 have p47 := Step.ext (O := ks [(some b1, Obj.cells [(Value.int .i64 r_.slots), (Value.slice Aa r_.owners.length Ca), (Value.slice Ab r_.costs.length Cb)].toArray 25)] O) hx44
 clear hx44
 replace Fa := Fa.step p47; replace Fb := Fb.step p47; replace ch30 := ch30.trans p47; clear p47 hs26
 obtain rfl := h45
 refine Rg_op rfl (op_not rfl ?_)
 refine Rg_op rfl (op_move (v := (Value.bool (!valid_1))) rfl ?_)
 refine Rg_case (fun hg49 => ?_) (fun hg49 => ?_)
 replace hm := bif_t hm hg49
 iterate 4 refine Rg_opx rfl (asB_ne rfl rfl) rfl ?_
 refine Rg_op rfl (op_pick_t (v := (Value.bool true)) rfl rfl ?_)
 refine Rg_op rfl (op_assign (v := (Value.bool true)) rfl ?_)
 refine Rg_nil ?_
 refine Wp_ret ?_
 have hz := step_all hs46
 replace Fa := Fa.step hz; replace Fb := Fb.step hz
 refine ⟨_, (show Closes [] _ _ from rfl), [(Value.bool true)], ⟨rfl, trivial⟩, hs46.ext, ?_⟩
 exact Vr.eq (a := vB) (x := true) rfl (Option.some.inj hm)
 replace hm := bif_f hm hg49
 refine Rg_opg rfl rfl rfl (op_fieldAddr ty25 rfl ty22 (by decide) rfl (rfl : _ = (⟨_, 1, none⟩ : Addr)) ?_)
 refine Rg_opg rfl rfl rfl (op_load (cs := [(Value.int .i64 r_.slots), (Value.slice Aa r_.owners.length Ca), (Value.slice Ab r_.costs.length Cb)]) (i := 0) ty22 hs46 rfl rfl rfl ?_)
 refine Rg_opg rfl rfl rfl (op_len Try.underlying22 rfl ?_)
 have rl50 := inK_len Fa
 refine Rg_opg rfl rfl rfl (op_leq rfl rfl ?_)
 refine Rg_op rfl (op_pick_f (v := (Value.bool (decide ((r_.owners.length : Int) ≤ 5)))) rfl rfl ?_)
 refine Rg_op rfl (op_assign (v := (Value.bool (decide ((r_.owners.length : Int) ≤ 5)))) rfl ?_)
 refine Rg_nil ?_
 refine Wp_ret ?_
 have hz := step_all hs46
 replace Fa := Fa.step hz; replace Fb := Fb.step hz
 refine ⟨_, (show Closes [] _ _ from rfl), [(Value.bool (decide ((r_.owners.length : Int) ≤ 5)))], ⟨rfl, trivial⟩, hs46.ext, ?_⟩
 exact Vr.eq (a := vB) (x := (decide ((r_.owners.length : Int) ≤ 5))) rfl (Option.some.inj hm)
 intro K10 hK10
 have ch51 := Step.refl (ks [(some b1, Obj.cells [(Value.int .i64 r_.slots), (Value.slice Aa r_.owners.length Ca), (Value.slice Ab r_.costs.length Cb)].toArray 25)] O) w2
 refine Wp_region ?_
 refine Rg_op rfl (op_fieldAddr ty25 rfl ty22 (by decide) rfl (rfl : _ = (⟨_, 1, none⟩ : Addr)) ?_)
 refine Rg_op rfl (op_load (cs := [(Value.int .i64 r_.slots), (Value.slice Aa r_.owners.length Ca), (Value.slice Ab r_.costs.length Cb)]) (i := 0) ty22 hs4 rfl rfl rfl ?_)
 refine Rg_op rfl (op_len Try.underlying22 rfl ?_)
 have rl52 := inK_len Fa
 refine Rg_op rfl (op_gtr rfl rfl ?_)
 refine Rg_op rfl (op_move (v := (Value.bool (decide (12 < (r_.owners.length : Int))))) rfl ?_)
 refine Rg_case (fun hg53 => ?_) (fun hg53 => ?_)
 replace hm := bif_t hm hg53
 iterate 4 refine Rg_opx rfl (asB_ne rfl rfl) rfl ?_
 refine Rg_op rfl (op_pick_t (v := (Value.bool true)) rfl rfl ?_)
 refine Rg_nil ?_
 exact hK10 _ _ ⟨true, _, rfl, ⟨(by repeat (first | with_reducible exact Out.refl _ _ | refine Out.upd ?_ rfl | refine Out.updL ?_ rfl | refine Out.mix' ?_ rfl | exact Out.refl _ _)), rfl, rfl, trivial⟩, ch51, hs4, hm⟩
 replace hm := bif_f hm hg53
 refine Rg_opg rfl rfl rfl (op_fieldAddr ty25 rfl ty23 (by decide) rfl (rfl : _ = (⟨_, 2, none⟩ : Addr)) ?_)
 refine Rg_opg rfl rfl rfl (op_load (cs := [(Value.int .i64 r_.slots), (Value.slice Aa r_.owners.length Ca), (Value.slice Ab r_.costs.length Cb)]) (i := 0) ty23 hs4 rfl rfl rfl ?_)
 refine Rg_opg rfl rfl rfl (op_len Try.underlying23 rfl ?_)
 have rl54 := inK_len Fb
 refine Rg_opg rfl rfl rfl (op_gtr rfl rfl ?_)
 refine Rg_op rfl (op_pick_f (v := (Value.bool (decide (12 < (r_.costs.length : Int))))) rfl rfl ?_)
 refine Rg_nil ?_
 exact hK10 _ _ ⟨(decide (12 < (r_.costs.length : Int))), _, rfl, ⟨(by repeat (first | with_reducible exact Out.refl _ _ | refine Out.upd ?_ rfl | refine Out.updL ?_ rfl | refine Out.mix' ?_ rfl | exact Out.refl _ _)), rfl, rfl, trivial⟩, ch51, hs4, hm⟩

def m11_overflightref38_Few (r_ : XRound) : Option Bool :=
 (m29_overflightref37_Few r_).bind fun few_1 =>
 bif few_1 then
  bif (decide ((r_.owners.length : Int) ≤ 5)) then
   some (decide (r_.slots ≤ 6))
  else
   some false
 else
  some false

theorem c11_overflightref38_Few {w : World} {O : List Nat} {r_ : XRound} {Aa : Option Addr} {Ca : Nat} {Ab : Option Addr} {Cb : Nat} (hO : ∀ k ∈ O, k < w.heap.size) (Ra : InK .i64 r_.slots) (Fa : SlR (rInt .i64) w O Aa Ca r_.owners) (Fb : SlR (rSl (rInt .i64)) w O Ab Cb r_.costs) {x : Bool} (hm : m11_overflightref38_Few r_ = some x) :
 Ok Try.prog 11 [(Value.agg [(Value.int .i64 r_.slots), (Value.slice Aa r_.owners.length Ca), (Value.slice Ab r_.costs.length Cb)].toArray)] w O vB x := by
 unfold m11_overflightref38_Few at hm
 refine Fn_of_Wp (n := 16) (xs := [.tmp 2]) Try.func11 rfl Try.ntmps11 Try.results11 rfl ?_
 have hs := St.start hO
 refine Wp_seq (Wp_region ?_)
 refine Rg_op rfl (op_box (cs := [(Value.int .i64 r_.slots), (Value.slice Aa r_.owners.length Ca), (Value.slice Ab r_.costs.length Cb)]) hs rfl rfl ?_)
 intro b1 w2 _ p3 hs4
 replace Fa := Fa.step p3; replace Fb := Fb.step p3; clear p3
 refine Rg_op rfl (op_assign (v := (Value.bool false)) rfl ?_)
 refine Rg_nil (Wp_seq (Wp_region ?_))
 refine Rg_op rfl (op_loadA (cs := [(Value.int .i64 r_.slots), (Value.slice Aa r_.owners.length Ca), (Value.slice Ab r_.costs.length Cb)]) (vs := [(Value.int .i64 r_.slots), (Value.slice Aa r_.owners.length Ca), (Value.slice Ab r_.costs.length Cb)]) (i := 0) ty25 hs4 rfl rfl rfl rfl ?_)
 replace hm := bd hm; obtain ⟨few_1, hv6, hm⟩ := hm
 refine Rg_op rfl (op_call Try.call29 (c29_overflightref37_Few (r_ := r_) hs4.ltw Ra Fa Fb hv6) rfl ?_)
 rintro v7 w8 ⟨hx9, h10⟩
 have hs11 := hs4.call hx9
 have p12 := Step.ext (O := ks [(some b1, Obj.cells [(Value.int .i64 r_.slots), (Value.slice Aa r_.owners.length Ca), (Value.slice Ab r_.costs.length Cb)].toArray 25)] O) hx9
 clear hx9
 replace Fa := Fa.step p12; replace Fb := Fb.step p12; clear p12 hs4
 obtain rfl := h10
 refine Rg_op rfl (op_move (v := (Value.bool few_1)) rfl ?_)
 refine Rg_case (fun hg14 => ?_) (fun hg14 => ?_)
 replace hm := bif_t hm hg14
 refine Rg_opg rfl rfl rfl (op_fieldAddr ty25 rfl ty22 (by decide) rfl (rfl : _ = (⟨_, 1, none⟩ : Addr)) ?_)
 refine Rg_opg rfl rfl rfl (op_load (cs := [(Value.int .i64 r_.slots), (Value.slice Aa r_.owners.length Ca), (Value.slice Ab r_.costs.length Cb)]) (i := 0) ty22 hs11 rfl rfl rfl ?_)
 refine Rg_opg rfl rfl rfl (op_len Try.underlying22 rfl ?_)
 have rl15 := inK_len Fa
 refine Rg_opg rfl rfl rfl (op_leq rfl rfl ?_)
 refine Rg_op rfl (op_pick_t (v := (Value.bool (decide ((r_.owners.length : Int) ≤ 5)))) rfl rfl ?_)
 refine Rg_op rfl (op_move (v := (Value.bool (decide ((r_.owners.length : Int) ≤ 5)))) rfl ?_)
 refine Rg_case (fun hg16 => ?_) (fun hg16 => ?_)
 replace hm := bif_t hm hg16
 refine Rg_opg rfl rfl rfl (op_fieldAddr ty25 rfl ty3 (by decide) rfl (rfl : _ = (⟨_, 0, none⟩ : Addr)) ?_)
 refine Rg_opg rfl rfl rfl (op_load (cs := [(Value.int .i64 r_.slots), (Value.slice Aa r_.owners.length Ca), (Value.slice Ab r_.costs.length Cb)]) (i := 0) ty3 hs11 rfl rfl rfl ?_)
 refine Rg_opg rfl rfl rfl (op_leq rfl rfl ?_)
 refine Rg_op rfl (op_pick_t (v := (Value.bool (decide (r_.slots ≤ 6)))) rfl rfl ?_)
 refine Rg_op rfl (op_assign (v := (Value.bool (decide (r_.slots ≤ 6)))) rfl ?_)
 refine Rg_nil ?_
 refine Wp_ret ?_
 have hz := step_all hs11
 replace Fa := Fa.step hz; replace Fb := Fb.step hz
 refine ⟨_, (show Closes [] _ _ from rfl), [(Value.bool (decide (r_.slots ≤ 6)))], ⟨rfl, trivial⟩, hs11.ext, ?_⟩
 exact Vr.eq (a := vB) (x := (decide (r_.slots ≤ 6))) rfl (Option.some.inj hm)
 replace hm := bif_f hm hg16
 iterate 3 refine Rg_opx rfl (asB_ne rfl rfl) rfl ?_
 refine Rg_op rfl (op_pick_f (v := (Value.bool false)) rfl rfl ?_)
 refine Rg_op rfl (op_assign (v := (Value.bool false)) rfl ?_)
 refine Rg_nil ?_
 refine Wp_ret ?_
 have hz := step_all hs11
 replace Fa := Fa.step hz; replace Fb := Fb.step hz
 refine ⟨_, (show Closes [] _ _ from rfl), [(Value.bool false)], ⟨rfl, trivial⟩, hs11.ext, ?_⟩
 exact Vr.eq (a := vB) (x := false) rfl (Option.some.inj hm)
 replace hm := bif_f hm hg14
 iterate 4 refine Rg_opx rfl (asB_ne rfl rfl) rfl ?_
 refine Rg_op rfl (op_pick_f (v := (Value.bool false)) rfl rfl ?_)
 refine Rg_op rfl (op_move (v := (Value.bool false)) rfl ?_)
 iterate 3 refine Rg_opx rfl (asB_ne rfl rfl) rfl ?_
 refine Rg_op rfl (op_pick_f (v := (Value.bool false)) rfl rfl ?_)
 refine Rg_op rfl (op_assign (v := (Value.bool false)) rfl ?_)
 refine Rg_nil ?_
 refine Wp_ret ?_
 have hz := step_all hs11
 replace Fa := Fa.step hz; replace Fb := Fb.step hz
 refine ⟨_, (show Closes [] _ _ from rfl), [(Value.bool false)], ⟨rfl, trivial⟩, hs11.ext, ?_⟩
 exact Vr.eq (a := vB) (x := false) rfl (Option.some.inj hm)

def m55_overflightref37_Assignment_B1 (slots : List Int) (i_1 : Int) (sf13 : Int → Option Bool) (sf38 : Int → Option Bool) (k_1 : Int) : Option Bool :=
 bif (decide (k_1 < i_1)) then
  ck ((0 : Int) ≤ k_1 ∧ k_1 < (slots.length : Int)) <|
  ck ((0 : Int) ≤ i_1 ∧ i_1 < (slots.length : Int)) <|
  bif (decide ((slots.getD k_1.toNat default) = (slots.getD i_1.toNat default))) then
   some false
  else
   sf38 (IntKind.wrap .i64 (k_1 + 1))
 else
  sf13 (IntKind.wrap .i64 (i_1 + 1))

def m55_overflightref37_Assignment_B0 (r_ : XRound) (slots : List Int) (sf13 : Int → Option Bool) (i_1 : Int) : Option Bool :=
 bif (decide (i_1 < (slots.length : Int))) then
  jn (fun (v_1 : Bool) =>
   bif v_1 then
    some false
   else
    loop1 (m55_overflightref37_Assignment_B1 slots i_1 sf13) ((i_1 - 0).toNat + 1) 0)
  (fun k27 =>
   ck ((0 : Int) ≤ i_1 ∧ i_1 < (slots.length : Int)) <|
   bif (decide ((slots.getD i_1.toNat default) < 0)) then
    k27 true
   else
    ck ((0 : Int) ≤ i_1 ∧ i_1 < (slots.length : Int)) <|
    bif (decide (r_.slots ≤ (slots.getD i_1.toNat default))) then
     k27 true
    else
     ck ((0 : Int) ≤ i_1 ∧ i_1 < (r_.costs.length : Int)) <|
     ck ((0 : Int) ≤ i_1 ∧ i_1 < (slots.length : Int)) <|
     ck ((0 : Int) ≤ (slots.getD i_1.toNat default) ∧ (slots.getD i_1.toNat default) < ((r_.costs.getD i_1.toNat default).length : Int)) <|
     k27 (decide (((r_.costs.getD i_1.toNat default).getD (slots.getD i_1.toNat default).toNat default) < 0)))
 else
  some true

def m55_overflightref37_Assignment (r_ : XRound) (slots : List Int) : Option Bool :=
 bif (decide ((slots.length : Int) ≠ (r_.owners.length : Int))) then
  some false
 else
  loop1 (m55_overflightref37_Assignment_B0 r_ slots) (((slots.length : Int) - 0).toNat + 1) 0

theorem c55_overflightref37_Assignment {w : World} {O : List Nat} {r_ : XRound} {slots : List Int} {Aa : Option Addr} {Ca : Nat} {Ab : Option Addr} {Cb : Nat} {Ac : Option Addr} {Cc : Nat} (hO : ∀ k ∈ O, k < w.heap.size) (Ra : InK .i64 r_.slots) (Fa : SlR (rInt .i64) w O Aa Ca r_.owners) (Fb : SlR (rSl (rInt .i64)) w O Ab Cb r_.costs) (Fc : SlR (rInt .i64) w O Ac Cc slots) {x : Bool} (hm : m55_overflightref37_Assignment r_ slots = some x) :
 Ok Try.prog 55 [(Value.agg [(Value.int .i64 r_.slots), (Value.slice Aa r_.owners.length Ca), (Value.slice Ab r_.costs.length Cb)].toArray), (Value.slice Ac slots.length Cc)] w O vB x := by
 unfold m55_overflightref37_Assignment at hm
 refine Fn_of_Wp (n := 61) (xs := [.tmp 4]) Try.func55 rfl Try.ntmps55 Try.results55 rfl ?_
 have hs := St.start hO
 refine Wp_seq (Wp_region ?_)
 refine Rg_op rfl (op_box (cs := [(Value.int .i64 r_.slots), (Value.slice Aa r_.owners.length Ca), (Value.slice Ab r_.costs.length Cb)]) hs rfl rfl ?_)
 intro b1 w2 _ p3 hs4
 replace Fa := Fa.step p3; replace Fb := Fb.step p3; replace Fc := Fc.step p3; clear p3
 refine Rg_op rfl (op_assign (v := (Value.bool false)) rfl ?_)
 refine Rg_nil (Wp_seq (Wp_seq (Wp_region ?_)))
 refine Rg_op rfl (op_move (v := (Value.slice Ac slots.length Cc)) rfl ?_)
 refine Rg_op rfl (op_len Try.underlying22 rfl ?_)
 have rl6 := inK_len Fc
 refine Rg_op rfl (op_fieldAddr ty25 rfl ty22 (by decide) rfl (rfl : _ = (⟨_, 1, none⟩ : Addr)) ?_)
 refine Rg_op rfl (op_load (cs := [(Value.int .i64 r_.slots), (Value.slice Aa r_.owners.length Ca), (Value.slice Ab r_.costs.length Cb)]) (i := 0) ty22 hs4 rfl rfl rfl ?_)
 refine Rg_op rfl (op_len Try.underlying22 rfl ?_)
 have rl7 := inK_len Fa
 refine Rg_op rfl (op_neq rfl rfl ?_)
 refine Rg_nil ?_
 refine Wp_cond rfl (fun hc8 => ?_) (fun hc8 => ?_)
 replace hm := bif_t hm hc8
 refine Wp_seq ?_
 obtain ⟨hs9, p10⟩ := hs4.sub (bs' := []) (.cons _ List.Sublist.slnil)
 clear Fa Fb Fc
 clear p10 hs4
 refine Wp_region ?_
 refine Rg_op rfl (op_assign (v := (Value.bool false)) rfl ?_)
 refine Rg_nil ?_
 refine Wp_ret ?_
 have hz := step_all hs9
 refine ⟨_, (show Closes [] _ _ from rfl), [(Value.bool false)], ⟨rfl, trivial⟩, hs9.ext, ?_⟩
 exact Vr.eq (a := vB) (x := false) rfl (Option.some.inj hm)
 replace hm := bif_f hm hc8
 refine Wp_skip (Wp_seq (Wp_seq (Wp_region ?_)))
 refine Rg_op rfl (op_assign (v := (Value.int .i64 0)) rfl ?_)
 refine Rg_nil (Wp_block ?_)
 refine Wp_reset [] [(1, (Value.slice Ac slots.length Cc)), (2, (Value.pointer (some ⟨b1, 0, none⟩))), (5, (Value.int .i64 0))] rfl ⟨rfl, rfl, rfl, trivial⟩ fun ξ12 => ?_
 refine Wp_loopM [4, 5, 6, 13, 14, 15, 16, 17, 18, 19, 20, 21, 22, 23, 24, 25, 26, 27, 28, 29, 30, 31, 32, 33, 34, 35, 36, 37, 38, 39, 40, 41, 42, 43, 44, 45, 46, 47, 48, 49, 50, 51, 52, 53, 54, 55, 56, 57, 58, 59, 60] (fun m fr w' => ∃ (i_1 : Int) (Ebs : Ents), Ebs = [(some b1, Obj.cells [(Value.int .i64 r_.slots), (Value.slice Aa r_.owners.length Ca), (Value.slice Ab r_.costs.length Cb)].toArray 25)] ∧ fr [] [(5, (Value.int .i64 i_1))] ∧ Step (ks [(some b1, Obj.cells [(Value.int .i64 r_.slots), (Value.slice Aa r_.owners.length Ca), (Value.slice Ab r_.costs.length Cb)].toArray 25)] O) w2 (ks Ebs O) w' ∧ St ⟨w, [], []⟩ O w' Ebs ∧ InK .i64 i_1 ∧ loop1 (m55_overflightref37_Assignment_B0 r_ slots) m i_1 = some x) (((slots.length : Int) - 0).toNat + 1) ⟨0, _, rfl, ⟨Out.refl _ _, rfl, rfl, trivial⟩, Step.refl _ _, hs4, (show InK .i64 0 from by decide), hm⟩ ?_ ?_
 rintro _ _ ⟨_, _, _, _, _, _, _, hm⟩; exact loop1_z hm
 rintro m16 K15 hK15 ρ21 w17 ⟨i_1, Ebs, hEbs, hfr20, hst19, hs18, Rb, hm⟩
 obtain ⟨sf13, hsf14, hm⟩ := loop1_s hm; unfold m55_overflightref37_Assignment_B0 at hm
 subst hEbs; rw [hfr20.eq]; clear hfr20
 replace Fa := Fa.step hst19; replace Fb := Fb.step hst19; replace Fc := Fc.step hst19
 have ch22 := hst19
 refine Wp_seq (Wp_seq (Wp_region ?_))
 refine Rg_op rfl (op_move (v := (Value.int .i64 i_1)) rfl ?_)
 refine Rg_op rfl (op_move (v := (Value.slice Ac slots.length Cc)) rfl ?_)
 refine Rg_op rfl (op_len Try.underlying22 rfl ?_)
 have rl23 := inK_len Fc
 refine Rg_op rfl (op_lss rfl rfl ?_)
 refine Rg_nil ?_
 refine Wp_cond rfl (fun hc24 => ?_) (fun hc24 => ?_)
 replace hm := bif_t hm hc24
 refine Wp_skip (Wp_seq (Wp_block (Wp_seq ?_)))
 refine Wp_reset2 [4, 5, 6, 13, 14, 15, 16, 17, 18, 19, 20, 21, 22, 23, 24, 25, 26, 27, 28, 29, 30, 31, 32, 33, 34, 35, 36, 37, 38, 39, 40, 41, 42, 43, 44, 45, 46, 47, 48, 49, 50, 51, 52, 53, 54, 55, 56, 57, 58, 59, 60] [] (updL ⟨ξ12, []⟩ [(1, (Value.slice Ac slots.length Cc)), (2, (Value.pointer (some ⟨b1, 0, none⟩))), (5, (Value.int .i64 0))]) [(5, (Value.int .i64 i_1))] (by repeat (first | with_reducible exact Out.refl _ _ | refine Out.upd ?_ rfl | refine Out.updL ?_ rfl | refine Out.mix' ?_ rfl | exact Out.refl _ _)) rfl ⟨rfl, trivial⟩ fun ξ25 => ?_
 replace hm := jn_elim hm; obtain ⟨k27, hk28, hm⟩ := hm
 refine Wp_seqJ [19, 20, 21, 22, 23, 24, 25, 26, 27, 28, 29, 30, 31, 32, 33, 34, 35, 36, 37, 38, 39, 40, 41, 42, 43, 44, 45, 46] (fun fr w' => ∃ (v_1 : Bool) (Ebs : Ents), Ebs = [(some b1, Obj.cells [(Value.int .i64 r_.slots), (Value.slice Aa r_.owners.length Ca), (Value.slice Ab r_.costs.length Cb)].toArray 25)] ∧ fr [] [(46, (Value.bool v_1))] ∧ Step (ks [(some b1, Obj.cells [(Value.int .i64 r_.slots), (Value.slice Aa r_.owners.length Ca), (Value.slice Ab r_.costs.length Cb)].toArray 25)] O) w17 (ks Ebs O) w' ∧ St ⟨w, [], []⟩ O w' Ebs ∧ k27 v_1 = some x) ?_ ?_
 rintro ρ34 w30 ⟨v_1, Ebs, hEbs, hfr33, hst32, hs31, hm⟩
 replace hm := jnE1 hk28 hm
 subst hEbs; rw [hfr33.eq]; clear hfr33
 replace Fa := Fa.step hst32; replace Fb := Fb.step hst32; replace Fc := Fc.step hst32; replace ch22 := ch22.trans hst32; clear hst32 hs18
 refine Wp_cond rfl (fun hc35 => ?_) (fun hc35 => ?_)
 replace hm := bif_t hm hc35
 refine Wp_seq ?_
 clear Fc
 refine Wp_region ?_
 refine Rg_op rfl (op_assign (v := (Value.bool false)) rfl ?_)
 refine Rg_nil ?_
 refine Wp_ret ?_
 have hz := step_all hs31
 replace Fa := Fa.step hz; replace Fb := Fb.step hz
 refine ⟨_, (show Closes [] _ _ from rfl), [(Value.bool false)], ⟨rfl, trivial⟩, hs31.ext, ?_⟩
 exact Vr.eq (a := vB) (x := false) rfl (Option.some.inj hm)
 replace hm := bif_f hm hc35
 refine Wp_skip (Wp_seq (Wp_region ?_))
 refine Rg_op rfl (op_assign (v := (Value.int .i64 0)) rfl ?_)
 refine Rg_nil (Wp_block ?_)
 refine Wp_reset2 [4, 5, 6, 13, 14, 15, 16, 17, 18, 19, 20, 21, 22, 23, 24, 25, 26, 27, 28, 29, 30, 31, 32, 33, 34, 35, 36, 37, 38, 39, 40, 41, 42, 43, 44, 45, 46, 47, 48, 49, 50, 51, 52, 53, 54, 55, 56, 57, 58, 59, 60] [] (updL ⟨ξ12, []⟩ [(1, (Value.slice Ac slots.length Cc)), (2, (Value.pointer (some ⟨b1, 0, none⟩))), (5, (Value.int .i64 0))]) [(5, (Value.int .i64 i_1)), (6, (Value.int .i64 0))] (by repeat (first | with_reducible exact Out.refl _ _ | refine Out.upd ?_ rfl | refine Out.updL ?_ rfl | refine Out.mix' ?_ rfl | exact Out.refl _ _)) rfl ⟨rfl, rfl, trivial⟩ fun ξ37 => ?_
 refine Wp_loopM [4, 6, 47, 48, 49, 50, 51, 52, 53, 54, 55, 56, 57, 58, 59, 60] (fun m fr w' => ∃ (k_1 : Int) (Ebs : Ents), Ebs = [(some b1, Obj.cells [(Value.int .i64 r_.slots), (Value.slice Aa r_.owners.length Ca), (Value.slice Ab r_.costs.length Cb)].toArray 25)] ∧ fr [] [(6, (Value.int .i64 k_1))] ∧ Step (ks [(some b1, Obj.cells [(Value.int .i64 r_.slots), (Value.slice Aa r_.owners.length Ca), (Value.slice Ab r_.costs.length Cb)].toArray 25)] O) w30 (ks Ebs O) w' ∧ St ⟨w, [], []⟩ O w' Ebs ∧ InK .i64 k_1 ∧ loop1 (m55_overflightref37_Assignment_B1 slots i_1 sf13) m k_1 = some x) ((i_1 - 0).toNat + 1) ⟨0, _, rfl, ⟨Out.refl _ _, rfl, rfl, trivial⟩, Step.refl _ _, hs31, (show InK .i64 0 from by decide), hm⟩ ?_ ?_
 rintro _ _ ⟨_, _, _, _, _, _, _, hm⟩; exact loop1_z hm
 rintro m41 K40 hK40 ρ46 w42 ⟨k_1, Ebs, hEbs, hfr45, hst44, hs43, Rc, hm⟩
 obtain ⟨sf38, hsf39, hm⟩ := loop1_s hm; unfold m55_overflightref37_Assignment_B1 at hm
 subst hEbs; rw [hfr45.eq]; clear hfr45
 replace Fa := Fa.step hst44; replace Fb := Fb.step hst44; replace Fc := Fc.step hst44; replace ch22 := ch22.trans hst44
 have ch47 := hst44
 refine Wp_seq (Wp_seq (Wp_region ?_))
 refine Rg_op rfl (op_move (v := (Value.int .i64 k_1)) rfl ?_)
 refine Rg_op rfl (op_move (v := (Value.int .i64 i_1)) rfl ?_)
 refine Rg_op rfl (op_lss rfl rfl ?_)
 refine Rg_nil ?_
 refine Wp_cond rfl (fun hc48 => ?_) (fun hc48 => ?_)
 replace hm := bif_t hm hc48
 refine Wp_skip (Wp_seq (Wp_block (Wp_seq ?_)))
 refine Wp_drawR (g0 := []) (m := 8) (fl := []) (TS_inv hs43) rfl (.inl rfl) rfl (by decide +kernel) ?_  -- 11
 refine Dw_eq (Value.slice Ac slots.length Cc) (fun ρ49 w50 g hle hi ht => ?_) ?_
 obtain ⟨-, hst, -⟩ := hle
 refine StepOp_plain (op_move (v := (Value.slice Ac slots.length Cc)) (ht 1 rfl) ?_)
 exact Goes.same hi rfl
 refine Dw_eq (Value.int .i64 k_1) (fun ρ52 w53 g hle hi ht => ?_) ?_
 obtain ⟨-, hst, -⟩ := hle
 refine StepOp_plain (op_move (v := (Value.int .i64 k_1)) (ht 6 rfl) ?_)
 exact Goes.same hi rfl
 replace hm := ck_some hm; obtain ⟨hc58, hm⟩ := hm
 refine Dw_op (VP O [(some b1, Obj.cells [(Value.int .i64 r_.slots), (Value.slice Aa r_.owners.length Ca), (Value.slice Ab r_.costs.length Cb)].toArray 25)] (rInt .i64) (slots.getD k_1.toNat default)) (VP.stab _ _) (fun ρ55 w56 g hle hi ht => ?_) ?_
 obtain ⟨-, hst, -⟩ := hle
 replace Fc := Fc.step hst
 refine StepOp_plain (op_indexAddr (q := (rInt .i64)) ty22 ty3 (ht 52 rfl) (ht 53 rfl) Fc rfl hc58.1 hc58.2 ?_)
 intro p59 f60
 exact Goes.same hi ⟨_, rfl, f60⟩
 refine Dw_op (VD O [(some b1, Obj.cells [(Value.int .i64 r_.slots), (Value.slice Aa r_.owners.length Ca), (Value.slice Ab r_.costs.length Cb)].toArray 25)] (vI .i64) (slots.getD k_1.toNat default)) (VD.stab _ _) (fun ρ61 w62 g hle hi ht => ?_) ?_
 obtain ⟨-, hst, -⟩ := hle
 obtain ⟨p64, q65, f66⟩ := ht 54 rfl
 refine StepOp_plain (op_loadP ty3 q65 f66 rfl ?_)
 intro v67 h68
 obtain ⟨rfl, Rd⟩ := un_int h68
 exact Goes.same hi (show Vr.vd (vI .i64) _ _ _ _ from ⟨rfl, Rd⟩)
 refine Dw_eq (Value.slice Ac slots.length Cc) (fun ρ70 w71 g hle hi ht => ?_) ?_
 obtain ⟨-, hst, -⟩ := hle
 refine StepOp_plain (op_move (v := (Value.slice Ac slots.length Cc)) (ht 1 rfl) ?_)
 exact Goes.same hi rfl
 refine Dw_eq (Value.int .i64 i_1) (fun ρ73 w74 g hle hi ht => ?_) ?_
 obtain ⟨-, hst, -⟩ := hle
 refine StepOp_plain (op_move (v := (Value.int .i64 i_1)) (ht 5 rfl) ?_)
 exact Goes.same hi rfl
 replace hm := ck_some hm; obtain ⟨hc79, hm⟩ := hm
 refine Dw_op (VP O [(some b1, Obj.cells [(Value.int .i64 r_.slots), (Value.slice Aa r_.owners.length Ca), (Value.slice Ab r_.costs.length Cb)].toArray 25)] (rInt .i64) (slots.getD i_1.toNat default)) (VP.stab _ _) (fun ρ76 w77 g hle hi ht => ?_) ?_
 obtain ⟨-, hst, -⟩ := hle
 replace Fc := Fc.step hst
 refine StepOp_plain (op_indexAddr (q := (rInt .i64)) ty22 ty3 (ht 56 rfl) (ht 57 rfl) Fc rfl hc79.1 hc79.2 ?_)
 intro p80 f81
 exact Goes.same hi ⟨_, rfl, f81⟩
 refine Dw_op (VD O [(some b1, Obj.cells [(Value.int .i64 r_.slots), (Value.slice Aa r_.owners.length Ca), (Value.slice Ab r_.costs.length Cb)].toArray 25)] (vI .i64) (slots.getD i_1.toNat default)) (VD.stab _ _) (fun ρ82 w83 g hle hi ht => ?_) ?_
 obtain ⟨-, hst, -⟩ := hle
 obtain ⟨p85, q86, f87⟩ := ht 58 rfl
 refine StepOp_plain (op_loadP ty3 q86 f87 rfl ?_)
 intro v88 h89
 obtain ⟨rfl, Re⟩ := un_int h89
 exact Goes.same hi (show Vr.vd (vI .i64) _ _ _ _ from ⟨rfl, Re⟩)
 refine Dw_nil fun w95 g96 hl97 hi98 => ?_
 obtain ⟨-, hst99, -⟩ := hl97
 obtain ⟨hs101, p100⟩ := Step.nx hi98
 rintro v102 h103
 replace h103 : Vr.vd (vI .i64) _ _ _ _ := h103
 obtain ⟨rfl, Rf⟩ := h103
 rintro _ ⟨p105, rfl, f106⟩
 rintro _ rfl
 rintro _ rfl
 rintro v107 h108
 replace h108 : Vr.vd (vI .i64) _ _ _ _ := h108
 obtain ⟨rfl, Rg⟩ := h108
 rintro _ ⟨p110, rfl, f111⟩
 rintro _ rfl
 rintro _ rfl
 have p112 : Step (ks [(some b1, Obj.cells [(Value.int .i64 r_.slots), (Value.slice Aa r_.owners.length Ca), (Value.slice Ab r_.costs.length Cb)].toArray 25)] O) w42 (ks [(some b1, Obj.cells [(Value.int .i64 r_.slots), (Value.slice Aa r_.owners.length Ca), (Value.slice Ab r_.costs.length Cb)].toArray 25)] O) w95 := hst99.trans p100
 replace f106 := f106.step p100; replace f111 := f111.step p100; replace Fa := Fa.step p112; replace Fb := Fb.step p112; replace Fc := Fc.step p112; replace ch22 := ch22.trans p112; replace ch47 := ch47.trans p112; clear p112 hs43
 refine Rg_op rfl (op_eql rfl rfl ?_)
 refine Rg_nil ?_
 refine Wp_cond rfl (fun hc113 => ?_) (fun hc113 => ?_)
 replace hm := bif_t hm hc113
 refine Wp_seq ?_
 clear Fc f106 f111
 refine Wp_region ?_
 refine Rg_op rfl (op_assign (v := (Value.bool false)) rfl ?_)
 refine Rg_nil ?_
 refine Wp_ret ?_
 have hz := step_all hs101
 replace Fa := Fa.step hz; replace Fb := Fb.step hz
 refine ⟨_, (show Closes [] _ _ from rfl), [(Value.bool false)], ⟨rfl, trivial⟩, hs101.ext, ?_⟩
 exact Vr.eq (a := vB) (x := false) rfl (Option.some.inj hm)
 replace hm := bif_f hm hc113
 refine Wp_skip ?_
 clear f106 f111
 refine Wp_region ?_
 refine Rg_op rfl (op_move (v := (Value.int .i64 k_1)) rfl ?_)
 refine Rg_op rfl (op_addw rfl rfl ?_)
 refine Rg_op rfl (op_assign (v := (Value.int .i64 (IntKind.wrap .i64 (k_1 + 1)))) rfl ?_)
 refine Rg_nil ?_
 exact hK40 _ _ ⟨(IntKind.wrap .i64 (k_1 + 1)), _, rfl, ⟨(by repeat (first | with_reducible exact Out.refl _ _ | refine Out.upd ?_ rfl | refine Out.updL ?_ rfl | refine Out.mix' ?_ rfl | exact Out.refl _ _)), rfl, rfl, trivial⟩, ch47, hs101, (inK_wrap .i64 _), jnE1 hsf39 hm⟩
 replace hm := bif_f hm hc48
 refine Wp_exit (Wp_region ?_)
 refine Rg_op rfl (op_move (v := (Value.int .i64 i_1)) rfl ?_)
 refine Rg_op rfl (op_addw rfl rfl ?_)
 refine Rg_op rfl (op_assign (v := (Value.int .i64 (IntKind.wrap .i64 (i_1 + 1)))) rfl ?_)
 refine Rg_nil ?_
 exact hK15 _ _ ⟨(IntKind.wrap .i64 (i_1 + 1)), _, rfl, ⟨(by repeat (first | with_reducible exact Out.refl _ _ | refine Out.upd ?_ rfl | refine Out.updL ?_ rfl | refine Out.mix' ?_ rfl | exact Out.refl _ _)), rfl, rfl, trivial⟩, ch22, hs43, (inK_wrap .i64 _), jnE1 hsf14 hm⟩
 intro K29 hK29
 have ch114 := Step.refl (ks [(some b1, Obj.cells [(Value.int .i64 r_.slots), (Value.slice Aa r_.owners.length Ca), (Value.slice Ab r_.costs.length Cb)].toArray 25)] O) w17
 refine Wp_drawR (g0 := []) (m := 24) (fl := []) (TS_inv hs18) rfl (.inl rfl) rfl (by decide +kernel) ?_  -- 6
 refine Dw_eq (Value.slice Ac slots.length Cc) (fun ρ115 w116 g hle hi ht => ?_) ?_
 obtain ⟨-, hst, -⟩ := hle
 refine StepOp_plain (op_move (v := (Value.slice Ac slots.length Cc)) (ht 1 rfl) ?_)
 exact Goes.same hi rfl
 refine Dw_eq (Value.int .i64 i_1) (fun ρ118 w119 g hle hi ht => ?_) ?_
 obtain ⟨-, hst, -⟩ := hle
 refine StepOp_plain (op_move (v := (Value.int .i64 i_1)) (ht 5 rfl) ?_)
 exact Goes.same hi rfl
 replace hm := ck_some hm; obtain ⟨hc124, hm⟩ := hm
 refine Dw_op (VP O [(some b1, Obj.cells [(Value.int .i64 r_.slots), (Value.slice Aa r_.owners.length Ca), (Value.slice Ab r_.costs.length Cb)].toArray 25)] (rInt .i64) (slots.getD i_1.toNat default)) (VP.stab _ _) (fun ρ121 w122 g hle hi ht => ?_) ?_
 obtain ⟨-, hst, -⟩ := hle
 replace Fc := Fc.step hst
 refine StepOp_plain (op_indexAddr (q := (rInt .i64)) ty22 ty3 (ht 19 rfl) (ht 20 rfl) Fc rfl hc124.1 hc124.2 ?_)
 intro p125 f126
 exact Goes.same hi ⟨_, rfl, f126⟩
 refine Dw_op (VD O [(some b1, Obj.cells [(Value.int .i64 r_.slots), (Value.slice Aa r_.owners.length Ca), (Value.slice Ab r_.costs.length Cb)].toArray 25)] (vI .i64) (slots.getD i_1.toNat default)) (VD.stab _ _) (fun ρ127 w128 g hle hi ht => ?_) ?_
 obtain ⟨-, hst, -⟩ := hle
 obtain ⟨p130, q131, f132⟩ := ht 21 rfl
 refine StepOp_plain (op_loadP ty3 q131 f132 rfl ?_)
 intro v133 h134
 obtain ⟨rfl, Rh⟩ := un_int h134
 exact Goes.same hi (show Vr.vd (vI .i64) _ _ _ _ from ⟨rfl, Rh⟩)
 refine Dw_eq (Value.bool (decide ((slots.getD i_1.toNat default) < 0))) (fun ρ136 w137 g hle hi ht => ?_) ?_
 obtain ⟨-, hst, -⟩ := hle
 have h139 : Vr.vd (vI .i64) _ _ _ _ := ht 22 rfl
 obtain ⟨q140, Ri⟩ := h139
 refine StepOp_plain (op_lss q140 rfl ?_)
 exact Goes.same hi rfl
 refine Dw_opB (decide ((slots.getD i_1.toNat default) < 0)) (fun ρ142 w143 g hle hi ht => ?_) (fun hg145 => ?_) (fun hg145 => ?_)
 obtain ⟨-, hst, -⟩ := hle
 refine StepOp_plain (op_move (v := (Value.bool (decide ((slots.getD i_1.toNat default) < 0)))) (ht 23 rfl) ?_)
 exact Goes.same hi rfl
 replace hm := bif_t hm hg145
 refine Dw_skip (fun _ _ _ ht => wanted_x rfl (ht 24 rfl) rfl) ?_
 refine Dw_skip (fun _ _ _ ht => wanted_x rfl (ht 24 rfl) rfl) ?_
 refine Dw_skip (fun _ _ _ ht => wanted_x rfl (ht 24 rfl) rfl) ?_
 refine Dw_skip (fun _ _ _ ht => wanted_x rfl (ht 24 rfl) rfl) ?_
 refine Dw_skip (fun _ _ _ ht => wanted_x rfl (ht 24 rfl) rfl) ?_
 refine Dw_skip (fun _ _ _ ht => wanted_x rfl (ht 24 rfl) rfl) ?_
 refine Dw_skip (fun _ _ _ ht => wanted_x rfl (ht 24 rfl) rfl) ?_
 refine Dw_eq (Value.bool true) (fun ρ146 w147 g hle hi ht => ?_) ?_
 obtain ⟨-, hst, -⟩ := hle
 refine StepOp_plain (op_pick_t (v := (Value.bool true)) (ht 24 rfl) rfl ?_)
 exact Goes.same hi rfl
 refine Dw_eq (Value.bool true) (fun ρ149 w150 g hle hi ht => ?_) ?_
 obtain ⟨-, hst, -⟩ := hle
 refine StepOp_plain (op_move (v := (Value.bool true)) (ht 32 rfl) ?_)
 exact Goes.same hi rfl
 refine Dw_skip (fun _ _ _ ht => wanted_x rfl (ht 33 rfl) rfl) ?_
 refine Dw_skip (fun _ _ _ ht => wanted_x rfl (ht 33 rfl) rfl) ?_
 refine Dw_skip (fun _ _ _ ht => wanted_x rfl (ht 33 rfl) rfl) ?_
 refine Dw_skip (fun _ _ _ ht => wanted_x rfl (ht 33 rfl) rfl) ?_
 refine Dw_skip (fun _ _ _ ht => wanted_x rfl (ht 33 rfl) rfl) ?_
 refine Dw_skip (fun _ _ _ ht => wanted_x rfl (ht 33 rfl) rfl) ?_
 refine Dw_skip (fun _ _ _ ht => wanted_x rfl (ht 33 rfl) rfl) ?_
 refine Dw_skip (fun _ _ _ ht => wanted_x rfl (ht 33 rfl) rfl) ?_
 refine Dw_skip (fun _ _ _ ht => wanted_x rfl (ht 33 rfl) rfl) ?_
 refine Dw_nil fun w156 g157 hl158 hi159 => ?_
 obtain ⟨-, hst160, -⟩ := hl158
 obtain ⟨hs162, p161⟩ := Step.nx hi159
 rintro _ rfl
 rintro _ rfl
 rintro _ rfl
 rintro _ rfl
 rintro _ rfl
 rintro _ rfl
 rintro _ rfl
 rintro _ rfl
 rintro _ rfl
 rintro _ rfl
 rintro _ rfl
 rintro _ rfl
 rintro _ rfl
 rintro _ rfl
 rintro _ rfl
 rintro _ rfl
 rintro _ rfl
 rintro _ rfl
 rintro _ rfl
 rintro _ rfl
 rintro v163 h164
 replace h164 : Vr.vd (vI .i64) _ _ _ _ := h164
 obtain ⟨rfl, Rj⟩ := h164
 rintro _ ⟨p166, rfl, f167⟩
 rintro _ rfl
 rintro _ rfl
 have p168 : Step (ks [(some b1, Obj.cells [(Value.int .i64 r_.slots), (Value.slice Aa r_.owners.length Ca), (Value.slice Ab r_.costs.length Cb)].toArray 25)] O) w17 (ks [(some b1, Obj.cells [(Value.int .i64 r_.slots), (Value.slice Aa r_.owners.length Ca), (Value.slice Ab r_.costs.length Cb)].toArray 25)] O) w156 := hst160.trans p161
 replace f167 := f167.step p161; replace Fa := Fa.step p168; replace Fb := Fb.step p168; replace Fc := Fc.step p168; replace ch22 := ch22.trans p168; replace ch114 := ch114.trans p168; clear p168 hs18
 iterate 3 refine Rg_opx rfl (asB_ne rfl rfl) rfl ?_
 refine Rg_op rfl (op_pick_t (v := (Value.bool true)) rfl rfl ?_)
 refine Rg_nil ?_
 exact hK29 _ _ ⟨true, _, rfl, ⟨(by repeat (first | with_reducible exact Out.refl _ _ | refine Out.upd ?_ rfl | refine Out.updL ?_ rfl | refine Out.mix' ?_ rfl | exact Out.refl _ _)), rfl, rfl, trivial⟩, ch114, hs162, hm⟩
 replace hm := bif_f hm hg145
 refine Dw_eq (Value.slice Ac slots.length Cc) (fun ρ169 w170 g hle hi ht => ?_) ?_
 obtain ⟨-, hst, -⟩ := hle
 refine StepOp_g rfl (ht 24 rfl) (op_move (v := (Value.slice Ac slots.length Cc)) (ht 1 rfl) ?_)
 exact Goes.same hi rfl
 refine Dw_eq (Value.int .i64 i_1) (fun ρ172 w173 g hle hi ht => ?_) ?_
 obtain ⟨-, hst, -⟩ := hle
 refine StepOp_g rfl (ht 24 rfl) (op_move (v := (Value.int .i64 i_1)) (ht 5 rfl) ?_)
 exact Goes.same hi rfl
 replace hm := ck_some hm; obtain ⟨hc178, hm⟩ := hm
 refine Dw_op (VP O [(some b1, Obj.cells [(Value.int .i64 r_.slots), (Value.slice Aa r_.owners.length Ca), (Value.slice Ab r_.costs.length Cb)].toArray 25)] (rInt .i64) (slots.getD i_1.toNat default)) (VP.stab _ _) (fun ρ175 w176 g hle hi ht => ?_) ?_
 obtain ⟨-, hst, -⟩ := hle
 replace Fc := Fc.step hst
 refine StepOp_g rfl (ht 24 rfl) (op_indexAddr (q := (rInt .i64)) ty22 ty3 (ht 25 rfl) (ht 26 rfl) Fc rfl hc178.1 hc178.2 ?_)
 intro p179 f180
 exact Goes.same hi ⟨_, rfl, f180⟩
 refine Dw_op (VD O [(some b1, Obj.cells [(Value.int .i64 r_.slots), (Value.slice Aa r_.owners.length Ca), (Value.slice Ab r_.costs.length Cb)].toArray 25)] (vI .i64) (slots.getD i_1.toNat default)) (VD.stab _ _) (fun ρ181 w182 g hle hi ht => ?_) ?_
 obtain ⟨-, hst, -⟩ := hle
 obtain ⟨p184, q185, f186⟩ := ht 27 rfl
 refine StepOp_g rfl (ht 24 rfl) (op_loadP ty3 q185 f186 rfl ?_)
 intro v187 h188
 obtain ⟨rfl, Rk⟩ := un_int h188
 exact Goes.same hi (show Vr.vd (vI .i64) _ _ _ _ from ⟨rfl, Rk⟩)
 refine Dw_eq (Value.pointer (some ⟨b1, 0, none⟩)) (fun ρ190 w191 g hle hi ht => ?_) ?_
 obtain ⟨-, hst, -⟩ := hle
 refine StepOp_g rfl (ht 24 rfl) (op_fieldAddr ty25 rfl ty3 (by decide) (ht 2 rfl) (rfl : _ = (⟨_, 0, none⟩ : Addr)) ?_)
 exact Goes.same hi rfl
 refine Dw_eq (Value.int .i64 r_.slots) (fun ρ193 w194 g hle hi ht => ?_) ?_
 obtain ⟨-, hst, -⟩ := hle
 have hsn := (Step.nx hi).1
 refine StepOp_g rfl (ht 24 rfl) (op_load (cs := [(Value.int .i64 r_.slots), (Value.slice Aa r_.owners.length Ca), (Value.slice Ab r_.costs.length Cb)]) (i := 0) ty3 hsn (ht 29 rfl) rfl rfl ?_)
 exact Goes.same hi rfl
 refine Dw_eq (Value.bool (decide (r_.slots ≤ (slots.getD i_1.toNat default)))) (fun ρ196 w197 g hle hi ht => ?_) ?_
 obtain ⟨-, hst, -⟩ := hle
 have h199 : Vr.vd (vI .i64) _ _ _ _ := ht 28 rfl
 obtain ⟨q200, Rl⟩ := h199
 refine StepOp_g rfl (ht 24 rfl) (op_geq q200 (ht 30 rfl) ?_)
 exact Goes.same hi rfl
 refine Dw_eq (Value.bool (decide (r_.slots ≤ (slots.getD i_1.toNat default)))) (fun ρ202 w203 g hle hi ht => ?_) ?_
 obtain ⟨-, hst, -⟩ := hle
 refine StepOp_plain (op_pick_f (v := (Value.bool (decide (r_.slots ≤ (slots.getD i_1.toNat default))))) (ht 24 rfl) (ht 31 rfl) ?_)
 exact Goes.same hi rfl
 refine Dw_opB (decide (r_.slots ≤ (slots.getD i_1.toNat default))) (fun ρ205 w206 g hle hi ht => ?_) (fun hg208 => ?_) (fun hg208 => ?_)
 obtain ⟨-, hst, -⟩ := hle
 refine StepOp_plain (op_move (v := (Value.bool (decide (r_.slots ≤ (slots.getD i_1.toNat default))))) (ht 32 rfl) ?_)
 exact Goes.same hi rfl
 replace hm := bif_t hm hg208
 refine Dw_skip (fun _ _ _ ht => wanted_x rfl (ht 33 rfl) rfl) ?_
 refine Dw_skip (fun _ _ _ ht => wanted_x rfl (ht 33 rfl) rfl) ?_
 refine Dw_skip (fun _ _ _ ht => wanted_x rfl (ht 33 rfl) rfl) ?_
 refine Dw_skip (fun _ _ _ ht => wanted_x rfl (ht 33 rfl) rfl) ?_
 refine Dw_skip (fun _ _ _ ht => wanted_x rfl (ht 33 rfl) rfl) ?_
 refine Dw_skip (fun _ _ _ ht => wanted_x rfl (ht 33 rfl) rfl) ?_
 refine Dw_skip (fun _ _ _ ht => wanted_x rfl (ht 33 rfl) rfl) ?_
 refine Dw_skip (fun _ _ _ ht => wanted_x rfl (ht 33 rfl) rfl) ?_
 refine Dw_skip (fun _ _ _ ht => wanted_x rfl (ht 33 rfl) rfl) ?_
 refine Dw_nil fun w213 g214 hl215 hi216 => ?_
 obtain ⟨-, hst217, -⟩ := hl215
 obtain ⟨hs219, p218⟩ := Step.nx hi216
 rintro _ rfl
 rintro _ rfl
 rintro _ rfl
 rintro _ rfl
 rintro _ rfl
 rintro _ rfl
 rintro _ rfl
 rintro _ rfl
 rintro _ rfl
 rintro _ rfl
 rintro _ rfl
 rintro _ rfl
 rintro _ rfl
 rintro _ rfl
 rintro v220 h221
 replace h221 : Vr.vd (vI .i64) _ _ _ _ := h221
 obtain ⟨rfl, Rm⟩ := h221
 rintro _ ⟨p223, rfl, f224⟩
 rintro _ rfl
 rintro _ rfl
 rintro _ rfl
 rintro _ rfl
 rintro v225 h226
 replace h226 : Vr.vd (vI .i64) _ _ _ _ := h226
 obtain ⟨rfl, Rn⟩ := h226
 rintro _ ⟨p228, rfl, f229⟩
 rintro _ rfl
 rintro _ rfl
 have p230 : Step (ks [(some b1, Obj.cells [(Value.int .i64 r_.slots), (Value.slice Aa r_.owners.length Ca), (Value.slice Ab r_.costs.length Cb)].toArray 25)] O) w17 (ks [(some b1, Obj.cells [(Value.int .i64 r_.slots), (Value.slice Aa r_.owners.length Ca), (Value.slice Ab r_.costs.length Cb)].toArray 25)] O) w213 := hst217.trans p218
 replace f224 := f224.step p218; replace f229 := f229.step p218; replace Fa := Fa.step p230; replace Fb := Fb.step p230; replace Fc := Fc.step p230; replace ch22 := ch22.trans p230; replace ch114 := ch114.trans p230; clear p230 hs18
 iterate 3 refine Rg_opx rfl (asB_ne rfl rfl) rfl ?_
 refine Rg_op rfl (op_pick_t (v := (Value.bool true)) rfl rfl ?_)
 refine Rg_nil ?_
 exact hK29 _ _ ⟨true, _, rfl, ⟨(by repeat (first | with_reducible exact Out.refl _ _ | refine Out.upd ?_ rfl | refine Out.updL ?_ rfl | refine Out.mix' ?_ rfl | exact Out.refl _ _)), rfl, rfl, trivial⟩, ch114, hs219, hm⟩
 replace hm := bif_f hm hg208
 refine Dw_eq (Value.pointer (some ⟨b1, 2, none⟩)) (fun ρ231 w232 g hle hi ht => ?_) ?_
 obtain ⟨-, hst, -⟩ := hle
 refine StepOp_g rfl (ht 33 rfl) (op_fieldAddr ty25 rfl ty23 (by decide) (ht 2 rfl) (rfl : _ = (⟨_, 2, none⟩ : Addr)) ?_)
 exact Goes.same hi rfl
 refine Dw_eq (Value.slice Ab r_.costs.length Cb) (fun ρ234 w235 g hle hi ht => ?_) ?_
 obtain ⟨-, hst, -⟩ := hle
 have hsn := (Step.nx hi).1
 refine StepOp_g rfl (ht 33 rfl) (op_load (cs := [(Value.int .i64 r_.slots), (Value.slice Aa r_.owners.length Ca), (Value.slice Ab r_.costs.length Cb)]) (i := 0) ty23 hsn (ht 34 rfl) rfl rfl ?_)
 exact Goes.same hi rfl
 refine Dw_eq (Value.int .i64 i_1) (fun ρ237 w238 g hle hi ht => ?_) ?_
 obtain ⟨-, hst, -⟩ := hle
 refine StepOp_g rfl (ht 33 rfl) (op_move (v := (Value.int .i64 i_1)) (ht 5 rfl) ?_)
 exact Goes.same hi rfl
 replace hm := ck_some hm; obtain ⟨hc243, hm⟩ := hm
 refine Dw_op (VP O [(some b1, Obj.cells [(Value.int .i64 r_.slots), (Value.slice Aa r_.owners.length Ca), (Value.slice Ab r_.costs.length Cb)].toArray 25)] (rSl (rInt .i64)) (r_.costs.getD i_1.toNat default)) (VP.stab _ _) (fun ρ240 w241 g hle hi ht => ?_) ?_
 obtain ⟨-, hst, -⟩ := hle
 replace Fb := Fb.step hst
 refine StepOp_g rfl (ht 33 rfl) (op_indexAddr (q := (rSl (rInt .i64))) ty23 ty22 (ht 35 rfl) (ht 36 rfl) Fb rfl hc243.1 hc243.2 ?_)
 intro p244 f245
 exact Goes.same hi ⟨_, rfl, f245⟩
 refine Dw_op (VD O [(some b1, Obj.cells [(Value.int .i64 r_.slots), (Value.slice Aa r_.owners.length Ca), (Value.slice Ab r_.costs.length Cb)].toArray 25)] (vC (rSl (rInt .i64))) (r_.costs.getD i_1.toNat default)) (VD.stab _ _) (fun ρ246 w247 g hle hi ht => ?_) ?_
 obtain ⟨-, hst, -⟩ := hle
 obtain ⟨p249, q250, f251⟩ := ht 37 rfl
 refine StepOp_g rfl (ht 33 rfl) (op_loadP ty22 q250 f251 rfl ?_)
 intro v252 h253
 obtain ⟨Ad, Cd, rfl, Fd⟩ := un_sl h253
 exact Goes.same hi (show Vr.vd (vC (rSl (rInt .i64))) _ _ _ _ from (mkC (mk_sl Fd)))
 refine Dw_eq (Value.slice Ac slots.length Cc) (fun ρ255 w256 g hle hi ht => ?_) ?_
 obtain ⟨-, hst, -⟩ := hle
 refine StepOp_g rfl (ht 33 rfl) (op_move (v := (Value.slice Ac slots.length Cc)) (ht 1 rfl) ?_)
 exact Goes.same hi rfl
 refine Dw_eq (Value.int .i64 i_1) (fun ρ258 w259 g hle hi ht => ?_) ?_
 obtain ⟨-, hst, -⟩ := hle
 refine StepOp_g rfl (ht 33 rfl) (op_move (v := (Value.int .i64 i_1)) (ht 5 rfl) ?_)
 exact Goes.same hi rfl
 replace hm := ck_some hm; obtain ⟨hc264, hm⟩ := hm
 refine Dw_op (VP O [(some b1, Obj.cells [(Value.int .i64 r_.slots), (Value.slice Aa r_.owners.length Ca), (Value.slice Ab r_.costs.length Cb)].toArray 25)] (rInt .i64) (slots.getD i_1.toNat default)) (VP.stab _ _) (fun ρ261 w262 g hle hi ht => ?_) ?_
 obtain ⟨-, hst, -⟩ := hle
 replace Fc := Fc.step hst
 refine StepOp_g rfl (ht 33 rfl) (op_indexAddr (q := (rInt .i64)) ty22 ty3 (ht 39 rfl) (ht 40 rfl) Fc rfl hc264.1 hc264.2 ?_)
 intro p265 f266
 exact Goes.same hi ⟨_, rfl, f266⟩
 refine Dw_op (VD O [(some b1, Obj.cells [(Value.int .i64 r_.slots), (Value.slice Aa r_.owners.length Ca), (Value.slice Ab r_.costs.length Cb)].toArray 25)] (vI .i64) (slots.getD i_1.toNat default)) (VD.stab _ _) (fun ρ267 w268 g hle hi ht => ?_) ?_
 obtain ⟨-, hst, -⟩ := hle
 obtain ⟨p270, q271, f272⟩ := ht 41 rfl
 refine StepOp_g rfl (ht 33 rfl) (op_loadP ty3 q271 f272 rfl ?_)
 intro v273 h274
 obtain ⟨rfl, Ro⟩ := un_int h274
 exact Goes.same hi (show Vr.vd (vI .i64) _ _ _ _ from ⟨rfl, Ro⟩)
 refine Dw_nil fun w280 g281 hl282 hi283 => ?_
 obtain ⟨-, hst284, -⟩ := hl282
 obtain ⟨hs286, p285⟩ := Step.nx hi283
 rintro v287 h288
 replace h288 : Vr.vd (vI .i64) _ _ _ _ := h288
 obtain ⟨rfl, Rp⟩ := h288
 rintro _ ⟨p290, rfl, f291⟩
 rintro _ rfl
 rintro _ rfl
 rintro v292 h293
 replace h293 : Vr.vd (vC (rSl (rInt .i64))) _ _ _ _ := h293
 obtain ⟨Ae, Ce, rfl, Fe⟩ := un_sl h293
 rintro _ ⟨p295, rfl, f296⟩
 rintro _ rfl
 rintro _ rfl
 rintro _ rfl
 rintro _ rfl
 rintro _ rfl
 rintro _ rfl
 rintro _ rfl
 rintro _ rfl
 rintro v297 h298
 replace h298 : Vr.vd (vI .i64) _ _ _ _ := h298
 obtain ⟨rfl, Rq⟩ := h298
 rintro _ ⟨p300, rfl, f301⟩
 rintro _ rfl
 rintro _ rfl
 rintro _ rfl
 rintro _ rfl
 rintro v302 h303
 replace h303 : Vr.vd (vI .i64) _ _ _ _ := h303
 obtain ⟨rfl, Rr⟩ := h303
 rintro _ ⟨p305, rfl, f306⟩
 rintro _ rfl
 rintro _ rfl
 have p307 : Step (ks [(some b1, Obj.cells [(Value.int .i64 r_.slots), (Value.slice Aa r_.owners.length Ca), (Value.slice Ab r_.costs.length Cb)].toArray 25)] O) w17 (ks [(some b1, Obj.cells [(Value.int .i64 r_.slots), (Value.slice Aa r_.owners.length Ca), (Value.slice Ab r_.costs.length Cb)].toArray 25)] O) w280 := hst284.trans p285
 replace f291 := f291.step p285; replace Fe := Fe.step p285; replace f296 := f296.step p285; replace f301 := f301.step p285; replace f306 := f306.step p285; replace Fa := Fa.step p307; replace Fb := Fb.step p307; replace Fc := Fc.step p307; replace ch22 := ch22.trans p307; replace ch114 := ch114.trans p307; clear p307 hs18
 replace hm := ck_some hm; obtain ⟨hc308, hm⟩ := hm
 refine Rg_opg rfl rfl rfl (op_indexAddr (q := (rInt .i64)) ty22 ty3 rfl rfl Fe rfl hc308.1 hc308.2 ?_)
 intro p309 f310
 refine Rg_opg rfl rfl rfl (op_loadP ty3 rfl f310 rfl ?_)
 intro v311 h312
 obtain ⟨rfl, Rs⟩ := un_int h312
 refine Rg_opg rfl rfl rfl (op_lss rfl rfl ?_)
 refine Rg_op rfl (op_pick_f (v := (Value.bool (decide (((r_.costs.getD i_1.toNat default).getD (slots.getD i_1.toNat default).toNat default) < 0)))) rfl rfl ?_)
 refine Rg_nil ?_
 exact hK29 _ _ ⟨(decide (((r_.costs.getD i_1.toNat default).getD (slots.getD i_1.toNat default).toNat default) < 0)), _, rfl, ⟨(by repeat (first | with_reducible exact Out.refl _ _ | refine Out.upd ?_ rfl | refine Out.updL ?_ rfl | refine Out.mix' ?_ rfl | exact Out.refl _ _)), rfl, rfl, trivial⟩, ch114, hs286, hm⟩
 replace hm := bif_f hm hc24
 refine Wp_exit (Wp_seq ?_)
 obtain ⟨hs314, p315⟩ := hs18.sub (bs' := []) (.cons _ List.Sublist.slnil)
 clear Fa Fb Fc
 replace ch22 := ch22.trans p315; clear p315 hs18
 refine Wp_region ?_
 refine Rg_op rfl (op_assign (v := (Value.bool true)) rfl ?_)
 refine Rg_nil ?_
 refine Wp_ret ?_
 have hz := step_all hs314
 refine ⟨_, (show Closes [] _ _ from rfl), [(Value.bool true)], ⟨rfl, trivial⟩, hs314.ext, ?_⟩
 exact Vr.eq (a := vB) (x := true) rfl (Option.some.inj hm)

def m56_overflightref37_costs_B0 (r_ : XRound) (slots : List Int) (sf17 : (List Int) → Int → Option (List Int)) (out_1 : List Int) (i_1 : Int) : Option (List Int) :=
 bif (decide (i_1 < (slots.length : Int))) then
  ck ((0 : Int) ≤ i_1 ∧ i_1 < (r_.owners.length : Int)) <|
  ck ((0 : Int) ≤ i_1 ∧ i_1 < (r_.owners.length : Int)) <|
  ck ((0 : Int) ≤ (r_.owners.getD i_1.toNat default) ∧ (r_.owners.getD i_1.toNat default) < (out_1.length : Int)) <|
  ck ((0 : Int) ≤ i_1 ∧ i_1 < (r_.costs.length : Int)) <|
  ck ((0 : Int) ≤ i_1 ∧ i_1 < (slots.length : Int)) <|
  ck ((0 : Int) ≤ (slots.getD i_1.toNat default) ∧ (slots.getD i_1.toNat default) < ((r_.costs.getD i_1.toNat default).length : Int)) <|
  ck ((0 : Int) ≤ (r_.owners.getD i_1.toNat default) ∧ (r_.owners.getD i_1.toNat default) < (out_1.length : Int)) <|
  sf17 (out_1.set (r_.owners.getD i_1.toNat default).toNat (IntKind.wrap .i64 ((out_1.getD (r_.owners.getD i_1.toNat default).toNat default) + ((r_.costs.getD i_1.toNat default).getD (slots.getD i_1.toNat default).toNat default)))) (IntKind.wrap .i64 (i_1 + 1))
 else
  some out_1

def m56_overflightref37_costs (r_ : XRound) (slots : List Int) : Option (List Int) :=
 ck ((0 : Int) ≤ (8 : Int) ∧ (8 : Int) ≤ (8 : Int) ∧ (8 : Int) * 8 ≤ 281474976710656 ∧ (8 : Int) ≤ 281474976710656) <|
 loop2 (m56_overflightref37_costs_B0 r_ slots) (((slots.length : Int) - 0).toNat + 1) (List.replicate 8 (0 : Int)) 0

theorem g56_overflightref37_costs {w : World} {O : List Nat} {r_ : XRound} {slots : List Int} {Aa : Option Addr} {Ca : Nat} {Ab : Option Addr} {Cb : Nat} {Ac : Option Addr} {Cc : Nat} (hO : ∀ k ∈ O, k < w.heap.size) (Ra : InK .i64 r_.slots) (Fa : SlR (rInt .i64) w O Aa Ca r_.owners) (Fb : SlR (rSl (rInt .i64)) w O Ab Cb r_.costs) (Fc : SlR (rInt .i64) w O Ac Cc slots) {x : (List Int)} (hm : m56_overflightref37_costs r_ slots = some x) :
 OkG Try.prog 56 [(Value.agg [(Value.int .i64 r_.slots), (Value.slice Aa r_.owners.length Ca), (Value.slice Ab r_.costs.length Cb)].toArray), (Value.slice Ac slots.length Cc)] w O (rInt .i64) 3 x := by
 unfold m56_overflightref37_costs at hm
 refine Fn_of_Wp (n := 42) (xs := [.tmp 4]) Try.func56 rfl Try.ntmps56 Try.results56 rfl ?_
 have hs := St.start hO
 refine Wp_seq (Wp_region ?_)
 refine Rg_op rfl (op_box (cs := [(Value.int .i64 r_.slots), (Value.slice Aa r_.owners.length Ca), (Value.slice Ab r_.costs.length Cb)]) hs rfl rfl ?_)
 intro b1 w2 _ p3 hs4
 replace Fa := Fa.step p3; replace Fb := Fb.step p3; replace Fc := Fc.step p3; clear p3
 refine Rg_op rfl (op_assign (v := (Value.slice none 0 0)) rfl ?_)
 refine Rg_nil (Wp_seq (Wp_region ?_))
 replace hm := ck_some hm; obtain ⟨hc6, hm⟩ := hm
 refine Rg_op rfl (op_makeSliceI (q := (rInt .i64)) (v := (Value.int .i64 0)) (x0 := (0 : Int)) ty22 ty3 hs4 rfl rfl hc6 rfl (fun _ _ => (mk_int (show InK .i64 0 from by decide))) ?_)
 intro b7 w8 hx12 p9 hs10 f11
 replace Fa := Fa.step p9; replace Fb := Fb.step p9; replace Fc := Fc.step p9; clear p9 hs4
 refine Rg_op rfl (op_assign (v := (Value.slice (some ⟨b7, 0, none⟩) (List.replicate 8 (0 : Int)).length 8)) rfl ?_)
 refine Rg_nil (Wp_seq (Wp_seq (Wp_region ?_)))
 refine Rg_op rfl (op_assign (v := (Value.int .i64 0)) rfl ?_)
 refine Rg_nil (Wp_block ?_)
 refine Wp_reset [] [(1, (Value.slice Ac slots.length Cc)), (2, (Value.pointer (some ⟨b1, 0, none⟩))), (5, (Value.slice (some ⟨b7, 0, none⟩) (List.replicate 8 (0 : Int)).length 8)), (6, (Value.int .i64 0))] rfl ⟨rfl, rfl, rfl, rfl, trivial⟩ fun ξ16 => ?_
 refine Wp_loopM [5, 6, 8, 9, 10, 11, 12, 13, 14, 15, 16, 17, 18, 19, 20, 21, 22, 23, 24, 25, 26, 27, 28, 29, 30, 31, 32, 33, 34, 35, 36, 37, 38, 39, 40] (fun m fr w' => ∃ (out_1 : List Int) (i_1 : Int) (Ad : Option Addr) (Cd : Nat) (k_g14 : Option Nat) (o_g14 : Obj) (Ebs : Ents), Ebs = [(k_g14, o_g14), (some b1, Obj.cells [(Value.int .i64 r_.slots), (Value.slice Aa r_.owners.length Ca), (Value.slice Ab r_.costs.length Cb)].toArray 25)] ∧ fr [] [(5, (Value.slice Ad out_1.length Cd)), (6, (Value.int .i64 i_1))] ∧ Step (ks [(some b7, Obj.cells (List.replicate 8 (Value.int .i64 0)).toArray 3), (some b1, Obj.cells [(Value.int .i64 r_.slots), (Value.slice Aa r_.owners.length Ca), (Value.slice Ab r_.costs.length Cb)].toArray 25)] O) w8 (ks Ebs O) w' ∧ St ⟨w, [], []⟩ O w' Ebs ∧ Gs (rInt .i64) 3 w' (ks Ebs O) Ad Cd out_1 k_g14 o_g14 ∧ InK .i64 i_1 ∧ loop2 (m56_overflightref37_costs_B0 r_ slots) m out_1 i_1 = some x) (((slots.length : Int) - 0).toNat + 1) ⟨(List.replicate 8 (0 : Int)), 0, (some ⟨b7, 0, none⟩), 8, (some b7), (Obj.cells (List.replicate 8 (Value.int .i64 0)).toArray 3), _, rfl, ⟨Out.refl _ _, rfl, rfl, rfl, trivial⟩, Step.refl _ _, hs10, f11, (show InK .i64 0 from by decide), hm⟩ ?_ ?_
 rintro _ _ ⟨_, _, _, _, _, _, _, _, _, _, _, _, _, hm⟩; exact loop2_z hm
 rintro m20 K19 hK19 ρ25 w21 ⟨out_1, i_1, Ad, Cd, k_g14, o_g14, Ebs, hEbs, hfr24, hst23, hs22, Fd, Rb, hm⟩
 obtain ⟨sf17, hsf18, hm⟩ := loop2_s hm; unfold m56_overflightref37_costs_B0 at hm
 subst hEbs; rw [hfr24.eq]; clear hfr24
 replace Fa := Fa.step hst23; replace Fb := Fb.step hst23; replace Fc := Fc.step hst23; replace f11 := f11.step hst23
 have ch26 := hst23
 refine Wp_seq (Wp_seq ?_)
 clear f11
 refine Wp_region ?_
 refine Rg_op rfl (op_move (v := (Value.int .i64 i_1)) rfl ?_)
 refine Rg_op rfl (op_move (v := (Value.slice Ac slots.length Cc)) rfl ?_)
 refine Rg_op rfl (op_len Try.underlying22 rfl ?_)
 have rl27 := inK_len Fc
 refine Rg_op rfl (op_lss rfl rfl ?_)
 refine Rg_nil ?_
 refine Wp_cond rfl (fun hc28 => ?_) (fun hc28 => ?_)
 replace hm := bif_t hm hc28
 refine Wp_skip (Wp_seq (Wp_block ?_))
 refine Wp_drawR (g0 := []) (m := 26) (fl := []) (TS_inv hs22) rfl (.inl rfl) rfl (by decide +kernel) ?_  -- 5
 refine Dw_eq (Value.slice Ad out_1.length Cd) (fun ρ29 w30 g hle hi ht => ?_) ?_
 obtain ⟨-, hst, -⟩ := hle
 refine StepOp_plain (op_move (v := (Value.slice Ad out_1.length Cd)) (ht 5 rfl) ?_)
 exact Goes.same hi rfl
 refine Dw_eq (Value.pointer (some ⟨b1, 1, none⟩)) (fun ρ32 w33 g hle hi ht => ?_) ?_
 obtain ⟨-, hst, -⟩ := hle
 refine StepOp_plain (op_fieldAddr ty25 rfl ty22 (by decide) (ht 2 rfl) (rfl : _ = (⟨_, 1, none⟩ : Addr)) ?_)
 exact Goes.same hi rfl
 refine Dw_eq (Value.slice Aa r_.owners.length Ca) (fun ρ35 w36 g hle hi ht => ?_) ?_
 obtain ⟨-, hst, -⟩ := hle
 have hsn := (Step.nx hi).1
 refine StepOp_plain (op_load (cs := [(Value.int .i64 r_.slots), (Value.slice Aa r_.owners.length Ca), (Value.slice Ab r_.costs.length Cb)]) (i := 1) ty22 hsn (ht 15 rfl) rfl rfl ?_)
 exact Goes.same hi rfl
 refine Dw_eq (Value.int .i64 i_1) (fun ρ38 w39 g hle hi ht => ?_) ?_
 obtain ⟨-, hst, -⟩ := hle
 refine StepOp_plain (op_move (v := (Value.int .i64 i_1)) (ht 6 rfl) ?_)
 exact Goes.same hi rfl
 replace hm := ck_some hm; obtain ⟨hc44, hm⟩ := hm
 refine Dw_op (VP O [(k_g14, o_g14), (some b1, Obj.cells [(Value.int .i64 r_.slots), (Value.slice Aa r_.owners.length Ca), (Value.slice Ab r_.costs.length Cb)].toArray 25)] (rInt .i64) (r_.owners.getD i_1.toNat default)) (VP.stab _ _) (fun ρ41 w42 g hle hi ht => ?_) ?_
 obtain ⟨-, hst, -⟩ := hle
 replace Fa := Fa.step hst
 refine StepOp_plain (op_indexAddr (q := (rInt .i64)) ty22 ty3 (ht 16 rfl) (ht 17 rfl) Fa rfl hc44.1 hc44.2 ?_)
 intro p45 f46
 exact Goes.same hi ⟨_, rfl, f46⟩
 refine Dw_op (VD O [(k_g14, o_g14), (some b1, Obj.cells [(Value.int .i64 r_.slots), (Value.slice Aa r_.owners.length Ca), (Value.slice Ab r_.costs.length Cb)].toArray 25)] (vI .i64) (r_.owners.getD i_1.toNat default)) (VD.stab _ _) (fun ρ47 w48 g hle hi ht => ?_) ?_
 obtain ⟨-, hst, -⟩ := hle
 obtain ⟨p50, q51, f52⟩ := ht 18 rfl
 refine StepOp_plain (op_loadP ty3 q51 f52 rfl ?_)
 intro v53 h54
 obtain ⟨rfl, Rc⟩ := un_int h54
 exact Goes.same hi (show Vr.vd (vI .i64) _ _ _ _ from ⟨rfl, Rc⟩)
 refine Dw_eq (Value.slice Ad out_1.length Cd) (fun ρ56 w57 g hle hi ht => ?_) ?_
 obtain ⟨-, hst, -⟩ := hle
 refine StepOp_plain (op_move (v := (Value.slice Ad out_1.length Cd)) (ht 5 rfl) ?_)
 exact Goes.same hi rfl
 refine Dw_eq (Value.pointer (some ⟨b1, 1, none⟩)) (fun ρ59 w60 g hle hi ht => ?_) ?_
 obtain ⟨-, hst, -⟩ := hle
 refine StepOp_plain (op_fieldAddr ty25 rfl ty22 (by decide) (ht 2 rfl) (rfl : _ = (⟨_, 1, none⟩ : Addr)) ?_)
 exact Goes.same hi rfl
 refine Dw_eq (Value.slice Aa r_.owners.length Ca) (fun ρ62 w63 g hle hi ht => ?_) ?_
 obtain ⟨-, hst, -⟩ := hle
 have hsn := (Step.nx hi).1
 refine StepOp_plain (op_load (cs := [(Value.int .i64 r_.slots), (Value.slice Aa r_.owners.length Ca), (Value.slice Ab r_.costs.length Cb)]) (i := 1) ty22 hsn (ht 21 rfl) rfl rfl ?_)
 exact Goes.same hi rfl
 refine Dw_eq (Value.int .i64 i_1) (fun ρ65 w66 g hle hi ht => ?_) ?_
 obtain ⟨-, hst, -⟩ := hle
 refine StepOp_plain (op_move (v := (Value.int .i64 i_1)) (ht 6 rfl) ?_)
 exact Goes.same hi rfl
 replace hm := ck_some hm; obtain ⟨hc71, hm⟩ := hm
 refine Dw_op (VP O [(k_g14, o_g14), (some b1, Obj.cells [(Value.int .i64 r_.slots), (Value.slice Aa r_.owners.length Ca), (Value.slice Ab r_.costs.length Cb)].toArray 25)] (rInt .i64) (r_.owners.getD i_1.toNat default)) (VP.stab _ _) (fun ρ68 w69 g hle hi ht => ?_) ?_
 obtain ⟨-, hst, -⟩ := hle
 replace Fa := Fa.step hst
 refine StepOp_plain (op_indexAddr (q := (rInt .i64)) ty22 ty3 (ht 22 rfl) (ht 23 rfl) Fa rfl hc71.1 hc71.2 ?_)
 intro p72 f73
 exact Goes.same hi ⟨_, rfl, f73⟩
 refine Dw_op (VD O [(k_g14, o_g14), (some b1, Obj.cells [(Value.int .i64 r_.slots), (Value.slice Aa r_.owners.length Ca), (Value.slice Ab r_.costs.length Cb)].toArray 25)] (vI .i64) (r_.owners.getD i_1.toNat default)) (VD.stab _ _) (fun ρ74 w75 g hle hi ht => ?_) ?_
 obtain ⟨-, hst, -⟩ := hle
 obtain ⟨p77, q78, f79⟩ := ht 24 rfl
 refine StepOp_plain (op_loadP ty3 q78 f79 rfl ?_)
 intro v80 h81
 obtain ⟨rfl, Rd⟩ := un_int h81
 exact Goes.same hi (show Vr.vd (vI .i64) _ _ _ _ from ⟨rfl, Rd⟩)
 replace hm := ck_some hm; obtain ⟨hc89, hm⟩ := hm
 obtain ⟨b90, rfl, rfl⟩ := Fd.at_ (by omega)
 refine Dw_eq (Value.pointer (some ⟨b90, (r_.owners.getD i_1.toNat default).toNat * 1, none⟩)) (fun ρ83 w84 g hle hi ht => ?_) ?_
 obtain ⟨-, hst, -⟩ := hle
 replace Fd := Fd.step hst
 have h86 : Vr.vd (vI .i64) _ _ _ _ := ht 25 rfl
 obtain ⟨q87, Re⟩ := h86
 refine StepOp_plain (op_indexAddrG ty22 ty3 (ht 20 rfl) q87 Fd hc89 ?_)
 rintro _ ⟨⟩ -
 exact Goes.same hi rfl
 refine Dw_op (VD O [(some b90, o_g14), (some b1, Obj.cells [(Value.int .i64 r_.slots), (Value.slice Aa r_.owners.length Ca), (Value.slice Ab r_.costs.length Cb)].toArray 25)] (vI .i64) (out_1.getD (r_.owners.getD i_1.toNat default).toNat default)) (VD.stab _ _) (fun ρ91 w92 g hle hi ht => ?_) ?_
 obtain ⟨-, hst, -⟩ := hle
 replace Fd := Fd.step hst
 have hsn := (Step.nx hi).1
 refine StepOp_plain (op_loadG (m := (r_.owners.getD i_1.toNat default)) (i := 0) ty3 rfl hsn rfl (ht 26 rfl) Fd hc89 ?_)
 intro v94 h95
 obtain ⟨rfl, Rf⟩ := un_int h95
 exact Goes.same hi (show Vr.vd (vI .i64) _ _ _ _ from ⟨rfl, Rf⟩)
 refine Dw_eq (Value.pointer (some ⟨b1, 2, none⟩)) (fun ρ97 w98 g hle hi ht => ?_) ?_
 obtain ⟨-, hst, -⟩ := hle
 refine StepOp_plain (op_fieldAddr ty25 rfl ty23 (by decide) (ht 2 rfl) (rfl : _ = (⟨_, 2, none⟩ : Addr)) ?_)
 exact Goes.same hi rfl
 refine Dw_eq (Value.slice Ab r_.costs.length Cb) (fun ρ100 w101 g hle hi ht => ?_) ?_
 obtain ⟨-, hst, -⟩ := hle
 have hsn := (Step.nx hi).1
 refine StepOp_plain (op_load (cs := [(Value.int .i64 r_.slots), (Value.slice Aa r_.owners.length Ca), (Value.slice Ab r_.costs.length Cb)]) (i := 1) ty23 hsn (ht 28 rfl) rfl rfl ?_)
 exact Goes.same hi rfl
 refine Dw_eq (Value.int .i64 i_1) (fun ρ103 w104 g hle hi ht => ?_) ?_
 obtain ⟨-, hst, -⟩ := hle
 refine StepOp_plain (op_move (v := (Value.int .i64 i_1)) (ht 6 rfl) ?_)
 exact Goes.same hi rfl
 replace hm := ck_some hm; obtain ⟨hc109, hm⟩ := hm
 refine Dw_op (VP O [(some b90, o_g14), (some b1, Obj.cells [(Value.int .i64 r_.slots), (Value.slice Aa r_.owners.length Ca), (Value.slice Ab r_.costs.length Cb)].toArray 25)] (rSl (rInt .i64)) (r_.costs.getD i_1.toNat default)) (VP.stab _ _) (fun ρ106 w107 g hle hi ht => ?_) ?_
 obtain ⟨-, hst, -⟩ := hle
 replace Fb := Fb.step hst
 refine StepOp_plain (op_indexAddr (q := (rSl (rInt .i64))) ty23 ty22 (ht 29 rfl) (ht 30 rfl) Fb rfl hc109.1 hc109.2 ?_)
 intro p110 f111
 exact Goes.same hi ⟨_, rfl, f111⟩
 refine Dw_op (VD O [(some b90, o_g14), (some b1, Obj.cells [(Value.int .i64 r_.slots), (Value.slice Aa r_.owners.length Ca), (Value.slice Ab r_.costs.length Cb)].toArray 25)] (vC (rSl (rInt .i64))) (r_.costs.getD i_1.toNat default)) (VD.stab _ _) (fun ρ112 w113 g hle hi ht => ?_) ?_
 obtain ⟨-, hst, -⟩ := hle
 obtain ⟨p115, q116, f117⟩ := ht 31 rfl
 refine StepOp_plain (op_loadP ty22 q116 f117 rfl ?_)
 intro v118 h119
 obtain ⟨Ae, Ce, rfl, Fe⟩ := un_sl h119
 exact Goes.same hi (show Vr.vd (vC (rSl (rInt .i64))) _ _ _ _ from (mkC (mk_sl Fe)))
 refine Dw_eq (Value.slice Ac slots.length Cc) (fun ρ121 w122 g hle hi ht => ?_) ?_
 obtain ⟨-, hst, -⟩ := hle
 refine StepOp_plain (op_move (v := (Value.slice Ac slots.length Cc)) (ht 1 rfl) ?_)
 exact Goes.same hi rfl
 refine Dw_eq (Value.int .i64 i_1) (fun ρ124 w125 g hle hi ht => ?_) ?_
 obtain ⟨-, hst, -⟩ := hle
 refine StepOp_plain (op_move (v := (Value.int .i64 i_1)) (ht 6 rfl) ?_)
 exact Goes.same hi rfl
 replace hm := ck_some hm; obtain ⟨hc130, hm⟩ := hm
 refine Dw_op (VP O [(some b90, o_g14), (some b1, Obj.cells [(Value.int .i64 r_.slots), (Value.slice Aa r_.owners.length Ca), (Value.slice Ab r_.costs.length Cb)].toArray 25)] (rInt .i64) (slots.getD i_1.toNat default)) (VP.stab _ _) (fun ρ127 w128 g hle hi ht => ?_) ?_
 obtain ⟨-, hst, -⟩ := hle
 replace Fc := Fc.step hst
 refine StepOp_plain (op_indexAddr (q := (rInt .i64)) ty22 ty3 (ht 33 rfl) (ht 34 rfl) Fc rfl hc130.1 hc130.2 ?_)
 intro p131 f132
 exact Goes.same hi ⟨_, rfl, f132⟩
 refine Dw_op (VD O [(some b90, o_g14), (some b1, Obj.cells [(Value.int .i64 r_.slots), (Value.slice Aa r_.owners.length Ca), (Value.slice Ab r_.costs.length Cb)].toArray 25)] (vI .i64) (slots.getD i_1.toNat default)) (VD.stab _ _) (fun ρ133 w134 g hle hi ht => ?_) ?_
 obtain ⟨-, hst, -⟩ := hle
 obtain ⟨p136, q137, f138⟩ := ht 35 rfl
 refine StepOp_plain (op_loadP ty3 q137 f138 rfl ?_)
 intro v139 h140
 obtain ⟨rfl, Rg⟩ := un_int h140
 exact Goes.same hi (show Vr.vd (vI .i64) _ _ _ _ from ⟨rfl, Rg⟩)
 replace hm := ck_some hm; obtain ⟨hc151, hm⟩ := hm
 refine Dw_op (VP O [(some b90, o_g14), (some b1, Obj.cells [(Value.int .i64 r_.slots), (Value.slice Aa r_.owners.length Ca), (Value.slice Ab r_.costs.length Cb)].toArray 25)] (rInt .i64) ((r_.costs.getD i_1.toNat default).getD (slots.getD i_1.toNat default).toNat default)) (VP.stab _ _) (fun ρ142 w143 g hle hi ht => ?_) ?_
 obtain ⟨-, hst, -⟩ := hle
 have h145 : Vr.vd (vC (rSl (rInt .i64))) _ _ _ _ := ht 32 rfl
 obtain ⟨Af, Cf, q146, Ff⟩ := un_sl h145
 have h148 : Vr.vd (vI .i64) _ _ _ _ := ht 36 rfl
 obtain ⟨q149, Rh⟩ := h148
 refine StepOp_plain (op_indexAddr (q := (rInt .i64)) ty22 ty3 q146 q149 Ff rfl hc151.1 hc151.2 ?_)
 intro p152 f153
 exact Goes.same hi ⟨_, rfl, f153⟩
 refine Dw_op (VD O [(some b90, o_g14), (some b1, Obj.cells [(Value.int .i64 r_.slots), (Value.slice Aa r_.owners.length Ca), (Value.slice Ab r_.costs.length Cb)].toArray 25)] (vI .i64) ((r_.costs.getD i_1.toNat default).getD (slots.getD i_1.toNat default).toNat default)) (VD.stab _ _) (fun ρ154 w155 g hle hi ht => ?_) ?_
 obtain ⟨-, hst, -⟩ := hle
 obtain ⟨p157, q158, f159⟩ := ht 37 rfl
 refine StepOp_plain (op_loadP ty3 q158 f159 rfl ?_)
 intro v160 h161
 obtain ⟨rfl, Ri⟩ := un_int h161
 exact Goes.same hi (show Vr.vd (vI .i64) _ _ _ _ from ⟨rfl, Ri⟩)
 refine Dw_eq (Value.int .i64 (IntKind.wrap .i64 ((out_1.getD (r_.owners.getD i_1.toNat default).toNat default) + ((r_.costs.getD i_1.toNat default).getD (slots.getD i_1.toNat default).toNat default)))) (fun ρ163 w164 g hle hi ht => ?_) ?_
 obtain ⟨-, hst, -⟩ := hle
 have h166 : Vr.vd (vI .i64) _ _ _ _ := ht 27 rfl
 obtain ⟨q167, Rj⟩ := h166
 have h169 : Vr.vd (vI .i64) _ _ _ _ := ht 38 rfl
 obtain ⟨q170, Rk⟩ := h169
 refine StepOp_plain (op_addw q167 q170 ?_)
 exact Goes.same hi rfl
 refine Dw_nil fun w176 g177 hl178 hi179 => ?_
 obtain ⟨-, hst180, -⟩ := hl178
 obtain ⟨hs182, p181⟩ := Step.nx hi179
 rintro _ rfl
 rintro v183 h184
 replace h184 : Vr.vd (vI .i64) _ _ _ _ := h184
 obtain ⟨rfl, Rl⟩ := h184
 rintro _ ⟨p186, rfl, f187⟩
 rintro v188 h189
 replace h189 : Vr.vd (vI .i64) _ _ _ _ := h189
 obtain ⟨rfl, Rm⟩ := h189
 rintro _ ⟨p191, rfl, f192⟩
 rintro _ rfl
 rintro _ rfl
 rintro v193 h194
 replace h194 : Vr.vd (vC (rSl (rInt .i64))) _ _ _ _ := h194
 obtain ⟨Ag, Cg, rfl, Fg⟩ := un_sl h194
 rintro _ ⟨p196, rfl, f197⟩
 rintro _ rfl
 rintro _ rfl
 rintro _ rfl
 rintro v198 h199
 replace h199 : Vr.vd (vI .i64) _ _ _ _ := h199
 obtain ⟨rfl, Rn⟩ := h199
 rintro _ rfl
 rintro v201 h202
 replace h202 : Vr.vd (vI .i64) _ _ _ _ := h202
 obtain ⟨rfl, Ro⟩ := h202
 rintro _ ⟨p204, rfl, f205⟩
 rintro _ rfl
 rintro _ rfl
 rintro _ rfl
 rintro _ rfl
 rintro v206 h207
 replace h207 : Vr.vd (vI .i64) _ _ _ _ := h207
 obtain ⟨rfl, Rp⟩ := h207
 rintro _ ⟨p209, rfl, f210⟩
 rintro _ rfl
 rintro _ rfl
 rintro _ rfl
 rintro _ rfl
 have p211 : Step (ks [(some b90, o_g14), (some b1, Obj.cells [(Value.int .i64 r_.slots), (Value.slice Aa r_.owners.length Ca), (Value.slice Ab r_.costs.length Cb)].toArray 25)] O) w21 (ks [(some b90, o_g14), (some b1, Obj.cells [(Value.int .i64 r_.slots), (Value.slice Aa r_.owners.length Ca), (Value.slice Ab r_.costs.length Cb)].toArray 25)] O) w176 := hst180.trans p181
 replace f187 := f187.step p181; replace f192 := f192.step p181; replace Fg := Fg.step p181; replace f197 := f197.step p181; replace f205 := f205.step p181; replace f210 := f210.step p181; replace Fa := Fa.step p211; replace Fb := Fb.step p211; replace Fc := Fc.step p211; replace Fd := Fd.step p211; replace ch26 := ch26.trans p211; clear p211 hs22
 replace hm := ck_some hm; obtain ⟨hc212, hm⟩ := hm
 refine Rg_op rfl (op_indexAddrG ty22 ty3 rfl rfl Fd hc212 ?_)
 rintro _ ⟨⟩ -
 refine Rg_op_ (op_storeG (vs := [(Value.int .i64 (IntKind.wrap .i64 ((out_1.getD (r_.owners.getD i_1.toNat default).toNat default) + ((r_.costs.getD i_1.toNat default).getD (slots.getD i_1.toNat default).toNat default))))]) (i := 0) (m := (r_.owners.getD i_1.toNat default)) ty3 rfl hs182 rfl rfl rfl rfl Fd hc212 (mk_int (inK_wrap .i64 _)) ?_)
 intro w214 o217 p215 hs216 f218
 replace Fa := Fa.step p215; replace Fb := Fb.step p215; replace Fc := Fc.step p215; replace f187 := f187.step p215; replace f192 := f192.step p215; replace Fg := Fg.step p215; replace f197 := f197.step p215; replace f205 := f205.step p215; replace f210 := f210.step p215; replace ch26 := ch26.trans p215; clear p215 hs182
 refine Rg_nil ?_
 clear f187 f192 Fg f197 f205 f210
 refine Wp_region ?_
 refine Rg_op rfl (op_move (v := (Value.int .i64 i_1)) rfl ?_)
 refine Rg_op rfl (op_addw rfl rfl ?_)
 refine Rg_op rfl (op_assign (v := (Value.int .i64 (IntKind.wrap .i64 (i_1 + 1)))) rfl ?_)
 refine Rg_nil ?_
 exact hK19 _ _ ⟨(out_1.set (r_.owners.getD i_1.toNat default).toNat (IntKind.wrap .i64 ((out_1.getD (r_.owners.getD i_1.toNat default).toNat default) + ((r_.costs.getD i_1.toNat default).getD (slots.getD i_1.toNat default).toNat default)))), (IntKind.wrap .i64 (i_1 + 1)), (some ⟨b90, 0, none⟩), Cd, (some b90), o217, _, rfl, ⟨(by repeat (first | with_reducible exact Out.refl _ _ | refine Out.upd ?_ rfl | refine Out.updL ?_ rfl | refine Out.mix' ?_ rfl | exact Out.refl _ _)), rfl, (eqlenV (show out_1.length = (out_1.set (r_.owners.getD i_1.toNat default).toNat (IntKind.wrap .i64 ((out_1.getD (r_.owners.getD i_1.toNat default).toNat default) + ((r_.costs.getD i_1.toNat default).getD (slots.getD i_1.toNat default).toNat default)))).length from by first | (simp; done) | (simp; omega))), rfl, trivial⟩, ch26, hs216, f218, (inK_wrap .i64 _), jnE2 hsf18 hm⟩
 replace hm := bif_f hm hc28
 refine Wp_exit (Wp_seq ?_)
 obtain ⟨hs219, p220⟩ := hs22.sub (bs' := [(k_g14, o_g14)]) (.cons_cons _ (.cons _ List.Sublist.slnil))
 clear Fa Fb Fc
 replace Fd := Fd.step p220; replace ch26 := ch26.trans p220; clear p220 hs22
 refine Wp_region ?_
 refine Rg_op rfl (op_move (v := (Value.slice Ad out_1.length Cd)) rfl ?_)
 refine Rg_op rfl (op_assign (v := (Value.slice Ad out_1.length Cd)) rfl ?_)
 refine Rg_nil ?_
 refine Wp_ret ?_
 refine ⟨_, (show Closes [] _ _ from rfl), [(Value.slice Ad out_1.length Cd)], ⟨rfl, trivial⟩, hs219.ext, ?_⟩
 exact OkG.mk (i := 0) hs219 rfl Fd (Option.some.inj hm)
def m31_overflightref37_Costs (r_ : XRound) (slots : List Int) : Option ((List Int) × Int) :=
 jn (fun (v_1 : Bool) =>
  bif v_1 then
   some (([] : List Int), 370)
  else
   (m56_overflightref37_costs r_ slots).bind fun costs_1 =>
   some (costs_1, 0))
 (fun k8 =>
  (m54_overflightref37_Valid r_).bind fun valid_1 =>
  bif (!valid_1) then
   k8 true
  else
   (m55_overflightref37_Assignment r_ slots).bind fun assignment_1 =>
   k8 (!assignment_1))

theorem c31_overflightref37_Costs {w : World} {O : List Nat} {r_ : XRound} {slots : List Int} {Aa : Option Addr} {Ca : Nat} {Ab : Option Addr} {Cb : Nat} {Ac : Option Addr} {Cc : Nat} (hO : ∀ k ∈ O, k < w.heap.size) (Ra : InK .i64 r_.slots) (Fa : SlR (rInt .i64) w O Aa Ca r_.owners) (Fb : SlR (rSl (rInt .i64)) w O Ab Cb r_.costs) (Fc : SlR (rInt .i64) w O Ac Cc slots) {x : (List Int) × Int} (hm : m31_overflightref37_Costs r_ slots = some x) :
 Ok Try.prog 31 [(Value.agg [(Value.int .i64 r_.slots), (Value.slice Aa r_.owners.length Ca), (Value.slice Ab r_.costs.length Cb)].toArray), (Value.slice Ac slots.length Cc)] w O (vT2 (vC (rSl (rInt .i64))) (vI .i64)) x := by
 unfold m31_overflightref37_Costs at hm
 refine Fn_of_Wp (n := 18) (xs := [.tmp 4, .tmp 5]) Try.func31 rfl Try.ntmps31 Try.results31 rfl ?_
 have hs := St.start hO
 refine Wp_seq (Wp_region ?_)
 refine Rg_op rfl (op_box (cs := [(Value.int .i64 r_.slots), (Value.slice Aa r_.owners.length Ca), (Value.slice Ab r_.costs.length Cb)]) hs rfl rfl ?_)
 intro b1 w2 _ p3 hs4
 replace Fa := Fa.step p3; replace Fb := Fb.step p3; replace Fc := Fc.step p3; clear p3
 refine Rg_op rfl (op_assign (v := (Value.slice none 0 0)) rfl ?_)
 refine Rg_op rfl (op_assign (v := (Value.int .i64 0)) rfl ?_)
 refine Rg_nil (Wp_seq ?_)
 refine Wp_reset [] [(1, (Value.slice Ac slots.length Cc)), (2, (Value.pointer (some ⟨b1, 0, none⟩)))] rfl ⟨rfl, rfl, trivial⟩ fun ξ6 => ?_
 replace hm := jn_elim hm; obtain ⟨k8, hk9, hm⟩ := hm
 refine Wp_seqJ [6, 7, 8, 9, 10, 11, 12, 13, 14] (fun fr w' => ∃ (v_1 : Bool) (Ebs : Ents), Ebs = [(some b1, Obj.cells [(Value.int .i64 r_.slots), (Value.slice Aa r_.owners.length Ca), (Value.slice Ab r_.costs.length Cb)].toArray 25)] ∧ fr [] [(14, (Value.bool v_1))] ∧ Step (ks [(some b1, Obj.cells [(Value.int .i64 r_.slots), (Value.slice Aa r_.owners.length Ca), (Value.slice Ab r_.costs.length Cb)].toArray 25)] O) w2 (ks Ebs O) w' ∧ St ⟨w, [], []⟩ O w' Ebs ∧ k8 v_1 = some x) ?_ ?_
 rintro ρ15 w11 ⟨v_1, Ebs, hEbs, hfr14, hst13, hs12, hm⟩
 replace hm := jnE1 hk9 hm
 subst hEbs; rw [hfr14.eq]; clear hfr14
 replace Fa := Fa.step hst13; replace Fb := Fb.step hst13; replace Fc := Fc.step hst13; clear hst13 hs4
 refine Wp_cond rfl (fun hc16 => ?_) (fun hc16 => ?_)
 replace hm := bif_t hm hc16
 refine Wp_seq ?_
 obtain ⟨hs17, p18⟩ := hs12.sub (bs' := []) (.cons _ List.Sublist.slnil)
 clear Fa Fb Fc
 clear p18 hs12
 refine Wp_region ?_
 refine Rg_op rfl (op_assign (v := (Value.slice none 0 0)) rfl ?_)
 refine Rg_op rfl (op_assign (v := (Value.int .i64 370)) rfl ?_)
 refine Rg_nil ?_
 refine Wp_ret ?_
 have hz := step_all hs17
 refine ⟨_, (show Closes [] _ _ from rfl), [(Value.slice none 0 0), (Value.int .i64 370)], ⟨rfl, rfl, trivial⟩, hs17.ext, ?_⟩
 exact Vr.eq (a := (vT2 (vC (rSl (rInt .i64))) (vI .i64))) (x := (([] : List Int), 370)) (mkT2 (mkC (mk_sl SlR.nil_)) ⟨rfl, (show InK .i64 370 from by decide)⟩) (Option.some.inj hm)
 replace hm := bif_f hm hc16
 refine Wp_skip (Wp_seq (Wp_region ?_))
 refine Rg_op rfl (op_loadA (cs := [(Value.int .i64 r_.slots), (Value.slice Aa r_.owners.length Ca), (Value.slice Ab r_.costs.length Cb)]) (vs := [(Value.int .i64 r_.slots), (Value.slice Aa r_.owners.length Ca), (Value.slice Ab r_.costs.length Cb)]) (i := 0) ty25 hs12 rfl rfl rfl rfl ?_)
 refine Rg_op rfl (op_move (v := (Value.slice Ac slots.length Cc)) rfl ?_)
 replace hm := bd hm; obtain ⟨costs_1, hv19, hm⟩ := hm
 refine Rg_op rfl (op_call Try.call56 (g56_overflightref37_costs (r_ := r_) (slots := slots) hs12.ltw Ra Fa Fb Fc hv19) rfl ?_)
 rintro _ w21 ⟨hx22, a25, c26, k27, o28, rfl, hk29, f30⟩
 obtain ⟨hs24, p31⟩ := hs12.callG (o := o28) hx22 hk29
 rw [← ks_cons (o := o28)] at f30
 replace Fa := Fa.step p31; replace Fb := Fb.step p31; replace Fc := Fc.step p31; clear p31 hs12
 refine Rg_op rfl (op_assign (v := (Value.slice a25 costs_1.length c26)) rfl ?_)
 refine Rg_op rfl (op_assign (v := (Value.int .i64 0)) rfl ?_)
 refine Rg_nil ?_
 refine Wp_ret ?_
 obtain ⟨hs34, p35, f33⟩ := Gs.publish (i := 0) hs24 rfl f30
 replace Fa := Fa.step p35; replace Fb := Fb.step p35; replace Fc := Fc.step p35; clear p35 hs24
 have hz := step_all hs34
 replace Fa := Fa.step hz; replace Fb := Fb.step hz; replace Fc := Fc.step hz; replace f33 := f33.step hz
 refine ⟨_, (show Closes [] _ _ from rfl), [(Value.slice a25 costs_1.length c26), (Value.int .i64 0)], ⟨rfl, rfl, trivial⟩, hs34.ext, ?_⟩
 exact Vr.eq (a := (vT2 (vC (rSl (rInt .i64))) (vI .i64))) (x := (costs_1, 0)) (mkT2 (mkC (mk_sl f33)) ⟨rfl, (show InK .i64 0 from by decide)⟩) (Option.some.inj hm)
 intro K10 hK10
 have ch36 := Step.refl (ks [(some b1, Obj.cells [(Value.int .i64 r_.slots), (Value.slice Aa r_.owners.length Ca), (Value.slice Ab r_.costs.length Cb)].toArray 25)] O) w2
 refine Wp_region ?_
 refine Rg_op rfl (op_loadA (cs := [(Value.int .i64 r_.slots), (Value.slice Aa r_.owners.length Ca), (Value.slice Ab r_.costs.length Cb)]) (vs := [(Value.int .i64 r_.slots), (Value.slice Aa r_.owners.length Ca), (Value.slice Ab r_.costs.length Cb)]) (i := 0) ty25 hs4 rfl rfl rfl rfl ?_)
 replace hm := bd hm; obtain ⟨valid_1, hv37, hm⟩ := hm
 refine Rg_op rfl (op_call Try.call54 (c54_overflightref37_Valid (r_ := r_) hs4.ltw Ra Fa Fb hv37) rfl ?_)
 rintro v38 w39 ⟨hx40, h41⟩
 have hs42 := hs4.call hx40
 have p43 := Step.ext (O := ks [(some b1, Obj.cells [(Value.int .i64 r_.slots), (Value.slice Aa r_.owners.length Ca), (Value.slice Ab r_.costs.length Cb)].toArray 25)] O) hx40
 clear hx40
 replace Fa := Fa.step p43; replace Fb := Fb.step p43; replace Fc := Fc.step p43; replace ch36 := ch36.trans p43; clear p43 hs4
 obtain rfl := h41
 refine Rg_op rfl (op_not rfl ?_)
 refine Rg_op rfl (op_move (v := (Value.bool (!valid_1))) rfl ?_)
 refine Rg_case (fun hg45 => ?_) (fun hg45 => ?_)
 replace hm := bif_t hm hg45
 iterate 4 refine Rg_opx rfl (asB_ne rfl rfl) rfl ?_
 refine Rg_op rfl (op_pick_t (v := (Value.bool true)) rfl rfl ?_)
 refine Rg_nil ?_
 exact hK10 _ _ ⟨true, _, rfl, ⟨(by repeat (first | with_reducible exact Out.refl _ _ | refine Out.upd ?_ rfl | refine Out.updL ?_ rfl | refine Out.mix' ?_ rfl | exact Out.refl _ _)), rfl, rfl, trivial⟩, ch36, hs42, hm⟩
 replace hm := bif_f hm hg45
 refine Rg_opg rfl rfl rfl (op_loadA (cs := [(Value.int .i64 r_.slots), (Value.slice Aa r_.owners.length Ca), (Value.slice Ab r_.costs.length Cb)]) (vs := [(Value.int .i64 r_.slots), (Value.slice Aa r_.owners.length Ca), (Value.slice Ab r_.costs.length Cb)]) (i := 0) ty25 hs42 rfl rfl rfl rfl ?_)
 refine Rg_opg rfl rfl rfl (op_move (v := (Value.slice Ac slots.length Cc)) rfl ?_)
 replace hm := bd hm; obtain ⟨assignment_1, hv46, hm⟩ := hm
 refine Rg_opg rfl rfl rfl (op_call Try.call55 (c55_overflightref37_Assignment (r_ := r_) (slots := slots) hs42.ltw Ra Fa Fb Fc hv46) rfl ?_)
 rintro v47 w48 ⟨hx49, h50⟩
 have hs51 := hs42.call hx49
 have p52 := Step.ext (O := ks [(some b1, Obj.cells [(Value.int .i64 r_.slots), (Value.slice Aa r_.owners.length Ca), (Value.slice Ab r_.costs.length Cb)].toArray 25)] O) hx49
 clear hx49
 replace Fa := Fa.step p52; replace Fb := Fb.step p52; replace Fc := Fc.step p52; replace ch36 := ch36.trans p52; clear p52 hs42
 obtain rfl := h50
 refine Rg_opg rfl rfl rfl (op_not rfl ?_)
 refine Rg_op rfl (op_pick_f (v := (Value.bool (!assignment_1))) rfl rfl ?_)
 refine Rg_nil ?_
 exact hK10 _ _ ⟨(!assignment_1), _, rfl, ⟨(by repeat (first | with_reducible exact Out.refl _ _ | refine Out.upd ?_ rfl | refine Out.updL ?_ rfl | refine Out.mix' ?_ rfl | exact Out.refl _ _)), rfl, rfl, trivial⟩, ch36, hs51, hm⟩

def m13_overflightref38_Value_B0 (r_ : XRound) (slots : List Int) (sf26 : Int → Int → Int → Option ((List Int) × Int)) (sum_1 : Int) (moves_1 : Int) (i_1 : Int) : Option ((List Int) × Int) :=
 bif (decide (i_1 < (slots.length : Int))) then
  ck ((0 : Int) ≤ i_1 ∧ i_1 < (r_.costs.length : Int)) <|
  ck ((0 : Int) ≤ i_1 ∧ i_1 < (slots.length : Int)) <|
  ck ((0 : Int) ≤ (slots.getD i_1.toNat default) ∧ (slots.getD i_1.toNat default) < ((r_.costs.getD i_1.toNat default).length : Int)) <|
  ck ((0 : Int) ≤ i_1 ∧ i_1 < (slots.length : Int)) <|
  bif (decide ((slots.getD i_1.toNat default) ≠ i_1)) then
   sf26 (IntKind.wrap .i64 (sum_1 + ((r_.costs.getD i_1.toNat default).getD (slots.getD i_1.toNat default).toNat default))) (IntKind.wrap .i64 (moves_1 + 1)) (IntKind.wrap .i64 (i_1 + 1))
  else
   sf26 (IntKind.wrap .i64 (sum_1 + ((r_.costs.getD i_1.toNat default).getD (slots.getD i_1.toNat default).toNat default))) moves_1 (IntKind.wrap .i64 (i_1 + 1))
 else
  some ([sum_1, moves_1], 0)

def m13_overflightref38_Value (r_ : XRound) (slots : List Int) : Option ((List Int) × Int) :=
 (m31_overflightref37_Costs r_ slots).bind fun costs_1 =>
 bif (decide (costs_1.2 ≠ 0)) then
  some (([] : List Int), costs_1.2)
 else
  loop3 (m13_overflightref38_Value_B0 r_ slots) (((slots.length : Int) - 0).toNat + 1) 0 0 0

theorem c13_overflightref38_Value {w : World} {O : List Nat} {r_ : XRound} {slots : List Int} {Aa : Option Addr} {Ca : Nat} {Ab : Option Addr} {Cb : Nat} {Ac : Option Addr} {Cc : Nat} (hO : ∀ k ∈ O, k < w.heap.size) (Ra : InK .i64 r_.slots) (Fa : SlR (rInt .i64) w O Aa Ca r_.owners) (Fb : SlR (rSl (rInt .i64)) w O Ab Cb r_.costs) (Fc : SlR (rInt .i64) w O Ac Cc slots) {x : (List Int) × Int} (hm : m13_overflightref38_Value r_ slots = some x) :
 Ok Try.prog 13 [(Value.agg [(Value.int .i64 r_.slots), (Value.slice Aa r_.owners.length Ca), (Value.slice Ab r_.costs.length Cb)].toArray), (Value.slice Ac slots.length Cc)] w O (vT2 (vC (rSl (rInt .i64))) (vI .i64)) x := by
 unfold m13_overflightref38_Value at hm
 refine Fn_of_Wp (n := 50) (xs := [.tmp 4, .tmp 5]) Try.func13 rfl Try.ntmps13 Try.results13 rfl ?_
 have hs := St.start hO
 refine Wp_seq (Wp_region ?_)
 refine Rg_op rfl (op_box (cs := [(Value.int .i64 r_.slots), (Value.slice Aa r_.owners.length Ca), (Value.slice Ab r_.costs.length Cb)]) hs rfl rfl ?_)
 intro b1 w2 _ p3 hs4
 replace Fa := Fa.step p3; replace Fb := Fb.step p3; replace Fc := Fc.step p3; clear p3
 refine Rg_op rfl (op_assign (v := (Value.slice none 0 0)) rfl ?_)
 refine Rg_op rfl (op_assign (v := (Value.int .i64 0)) rfl ?_)
 refine Rg_nil (Wp_seq (Wp_region ?_))
 refine Rg_op rfl (op_loadA (cs := [(Value.int .i64 r_.slots), (Value.slice Aa r_.owners.length Ca), (Value.slice Ab r_.costs.length Cb)]) (vs := [(Value.int .i64 r_.slots), (Value.slice Aa r_.owners.length Ca), (Value.slice Ab r_.costs.length Cb)]) (i := 0) ty25 hs4 rfl rfl rfl rfl ?_)
 refine Rg_op rfl (op_move (v := (Value.slice Ac slots.length Cc)) rfl ?_)
 replace hm := bd hm; obtain ⟨costs_1, hv6, hm⟩ := hm
 refine Rg_op rfl (op_call Try.call31 (c31_overflightref37_Costs (r_ := r_) (slots := slots) hs4.ltw Ra Fa Fb Fc hv6) rfl ?_)
 rintro v7 w8 ⟨hx9, h10⟩
 have hs11 := hs4.call hx9
 have p12 := Step.ext (O := ks [(some b1, Obj.cells [(Value.int .i64 r_.slots), (Value.slice Aa r_.owners.length Ca), (Value.slice Ab r_.costs.length Cb)].toArray 25)] O) hx9
 clear hx9
 replace Fa := Fa.step p12; replace Fb := Fb.step p12; replace Fc := Fc.step p12; clear p12 hs4
 obtain ⟨v13, v14, rfl, h15, h16⟩ := h10
 obtain ⟨Ad, Cd, rfl, Fd⟩ := un_sl h15
 obtain ⟨rfl, Rb⟩ := h16
 refine Rg_op rfl (op_move (v := (Value.tuple [(Value.slice Ad costs_1.1.length Cd), (Value.int .i64 costs_1.2)].toArray)) rfl ?_)
 refine Rg_op rfl (op_extract (v := (Value.slice Ad costs_1.1.length Cd)) rfl rfl ?_)
 refine Rg_op rfl (op_extract (v := (Value.int .i64 costs_1.2)) rfl rfl ?_)
 refine Rg_op rfl (op_assign (v := (Value.slice Ad costs_1.1.length Cd)) rfl ?_)
 refine Rg_op rfl (op_assign (v := (Value.int .i64 costs_1.2)) rfl ?_)
 refine Rg_nil (Wp_seq (Wp_seq ?_))
 clear Fd
 refine Wp_region ?_
 refine Rg_op rfl (op_move (v := (Value.int .i64 costs_1.2)) rfl ?_)
 refine Rg_op rfl (op_neq rfl rfl ?_)
 refine Rg_nil ?_
 refine Wp_cond rfl (fun hc19 => ?_) (fun hc19 => ?_)
 replace hm := bif_t hm hc19
 refine Wp_seq ?_
 obtain ⟨hs20, p21⟩ := hs11.sub (bs' := []) (.cons _ List.Sublist.slnil)
 clear Fa Fb Fc
 clear p21 hs11
 refine Wp_region ?_
 refine Rg_op rfl (op_move (v := (Value.int .i64 costs_1.2)) rfl ?_)
 refine Rg_op rfl (op_assign (v := (Value.slice none 0 0)) rfl ?_)
 refine Rg_op rfl (op_assign (v := (Value.int .i64 costs_1.2)) rfl ?_)
 refine Rg_nil ?_
 refine Wp_ret ?_
 have hz := step_all hs20
 refine ⟨_, (show Closes [] _ _ from rfl), [(Value.slice none 0 0), (Value.int .i64 costs_1.2)], ⟨rfl, rfl, trivial⟩, hs20.ext, ?_⟩
 exact Vr.eq (a := (vT2 (vC (rSl (rInt .i64))) (vI .i64))) (x := (([] : List Int), costs_1.2)) (mkT2 (mkC (mk_sl SlR.nil_)) ⟨rfl, Rb⟩) (Option.some.inj hm)
 replace hm := bif_f hm hc19
 refine Wp_skip (Wp_seq (Wp_region ?_))
 refine Rg_op rfl (op_assign (v := (Value.int .i64 0)) rfl ?_)
 refine Rg_nil (Wp_seq (Wp_region ?_))
 refine Rg_op rfl (op_assign (v := (Value.int .i64 0)) rfl ?_)
 refine Rg_nil (Wp_seq (Wp_seq (Wp_region ?_)))
 refine Rg_op rfl (op_assign (v := (Value.int .i64 0)) rfl ?_)
 refine Rg_nil (Wp_block ?_)
 refine Wp_reset [] [(1, (Value.slice Ac slots.length Cc)), (2, (Value.pointer (some ⟨b1, 0, none⟩))), (8, (Value.int .i64 0)), (9, (Value.int .i64 0)), (10, (Value.int .i64 0))] rfl ⟨rfl, rfl, rfl, rfl, rfl, trivial⟩ fun ξ25 => ?_
 refine Wp_loopM [8, 9, 10, 20, 21, 22, 23, 24, 25, 26, 27, 28, 29, 30, 31, 32, 33, 34, 35, 36, 37, 38, 39, 40, 41, 42, 43, 44, 45, 46] (fun m fr w' => ∃ (sum_1 : Int) (moves_1 : Int) (i_1 : Int) (Ebs : Ents), Ebs = [(some b1, Obj.cells [(Value.int .i64 r_.slots), (Value.slice Aa r_.owners.length Ca), (Value.slice Ab r_.costs.length Cb)].toArray 25)] ∧ fr [] [(8, (Value.int .i64 sum_1)), (9, (Value.int .i64 moves_1)), (10, (Value.int .i64 i_1))] ∧ Step (ks [(some b1, Obj.cells [(Value.int .i64 r_.slots), (Value.slice Aa r_.owners.length Ca), (Value.slice Ab r_.costs.length Cb)].toArray 25)] O) w8 (ks Ebs O) w' ∧ St ⟨w, [], []⟩ O w' Ebs ∧ InK .i64 sum_1 ∧ InK .i64 moves_1 ∧ InK .i64 i_1 ∧ loop3 (m13_overflightref38_Value_B0 r_ slots) m sum_1 moves_1 i_1 = some x) (((slots.length : Int) - 0).toNat + 1) ⟨0, 0, 0, _, rfl, ⟨Out.refl _ _, rfl, rfl, rfl, rfl, trivial⟩, Step.refl _ _, hs11, (show InK .i64 0 from by decide), (show InK .i64 0 from by decide), (show InK .i64 0 from by decide), hm⟩ ?_ ?_
 rintro _ _ ⟨_, _, _, _, _, _, _, _, _, _, _, hm⟩; exact loop3_z hm
 rintro m29 K28 hK28 ρ34 w30 ⟨sum_1, moves_1, i_1, Ebs, hEbs, hfr33, hst32, hs31, Rc, Rd, Re, hm⟩
 obtain ⟨sf26, hsf27, hm⟩ := loop3_s hm; unfold m13_overflightref38_Value_B0 at hm
 subst hEbs; rw [hfr33.eq]; clear hfr33
 replace Fa := Fa.step hst32; replace Fb := Fb.step hst32; replace Fc := Fc.step hst32
 have ch35 := hst32
 refine Wp_seq (Wp_seq (Wp_region ?_))
 refine Rg_op rfl (op_move (v := (Value.int .i64 i_1)) rfl ?_)
 refine Rg_op rfl (op_move (v := (Value.slice Ac slots.length Cc)) rfl ?_)
 refine Rg_op rfl (op_len Try.underlying22 rfl ?_)
 have rl36 := inK_len Fc
 refine Rg_op rfl (op_lss rfl rfl ?_)
 refine Rg_nil ?_
 refine Wp_cond rfl (fun hc37 => ?_) (fun hc37 => ?_)
 replace hm := bif_t hm hc37
 refine Wp_skip (Wp_seq (Wp_block (Wp_seq ?_)))
 refine Wp_drawR (g0 := []) (m := 10) (fl := [0]) (TS_inv hs31) rfl (.inl rfl) rfl (by decide +kernel) ?_  -- 9
 refine Dw_eq (Value.int .i64 sum_1) (fun ρ38 w39 g hle hi ht => ?_) ?_
 obtain ⟨-, hst, -⟩ := hle
 refine StepOp_plain (op_move (v := (Value.int .i64 sum_1)) (ht 8 rfl) ?_)
 exact Goes.same hi rfl
 refine Dw_eq (Value.pointer (some ⟨b1, 2, none⟩)) (fun ρ41 w42 g hle hi ht => ?_) ?_
 obtain ⟨-, hst, -⟩ := hle
 refine StepOp_plain (op_fieldAddr ty25 rfl ty23 (by decide) (ht 2 rfl) (rfl : _ = (⟨_, 2, none⟩ : Addr)) ?_)
 exact Goes.same hi rfl
 refine Dw_eq (Value.slice Ab r_.costs.length Cb) (fun ρ44 w45 g hle hi ht => ?_) ?_
 obtain ⟨-, hst, -⟩ := hle
 have hsn := (Step.nx hi).1
 refine StepOp_plain (op_load (cs := [(Value.int .i64 r_.slots), (Value.slice Aa r_.owners.length Ca), (Value.slice Ab r_.costs.length Cb)]) (i := 0) ty23 hsn (ht 27 rfl) rfl rfl ?_)
 exact Goes.same hi rfl
 refine Dw_eq (Value.int .i64 i_1) (fun ρ47 w48 g hle hi ht => ?_) ?_
 obtain ⟨-, hst, -⟩ := hle
 refine StepOp_plain (op_move (v := (Value.int .i64 i_1)) (ht 10 rfl) ?_)
 exact Goes.same hi rfl
 replace hm := ck_some hm; obtain ⟨hc53, hm⟩ := hm
 refine Dw_op (VP O [(some b1, Obj.cells [(Value.int .i64 r_.slots), (Value.slice Aa r_.owners.length Ca), (Value.slice Ab r_.costs.length Cb)].toArray 25)] (rSl (rInt .i64)) (r_.costs.getD i_1.toNat default)) (VP.stab _ _) (fun ρ50 w51 g hle hi ht => ?_) ?_
 obtain ⟨-, hst, -⟩ := hle
 replace Fb := Fb.step hst
 refine StepOp_plain (op_indexAddr (q := (rSl (rInt .i64))) ty23 ty22 (ht 28 rfl) (ht 29 rfl) Fb rfl hc53.1 hc53.2 ?_)
 intro p54 f55
 exact Goes.same hi ⟨_, rfl, f55⟩
 refine Dw_op (VD O [(some b1, Obj.cells [(Value.int .i64 r_.slots), (Value.slice Aa r_.owners.length Ca), (Value.slice Ab r_.costs.length Cb)].toArray 25)] (vC (rSl (rInt .i64))) (r_.costs.getD i_1.toNat default)) (VD.stab _ _) (fun ρ56 w57 g hle hi ht => ?_) ?_
 obtain ⟨-, hst, -⟩ := hle
 obtain ⟨p59, q60, f61⟩ := ht 30 rfl
 refine StepOp_plain (op_loadP ty22 q60 f61 rfl ?_)
 intro v62 h63
 obtain ⟨Ae, Ce, rfl, Fe⟩ := un_sl h63
 exact Goes.same hi (show Vr.vd (vC (rSl (rInt .i64))) _ _ _ _ from (mkC (mk_sl Fe)))
 refine Dw_eq (Value.slice Ac slots.length Cc) (fun ρ65 w66 g hle hi ht => ?_) ?_
 obtain ⟨-, hst, -⟩ := hle
 refine StepOp_plain (op_move (v := (Value.slice Ac slots.length Cc)) (ht 1 rfl) ?_)
 exact Goes.same hi rfl
 refine Dw_eq (Value.int .i64 i_1) (fun ρ68 w69 g hle hi ht => ?_) ?_
 obtain ⟨-, hst, -⟩ := hle
 refine StepOp_plain (op_move (v := (Value.int .i64 i_1)) (ht 10 rfl) ?_)
 exact Goes.same hi rfl
 replace hm := ck_some hm; obtain ⟨hc74, hm⟩ := hm
 refine Dw_op (VP O [(some b1, Obj.cells [(Value.int .i64 r_.slots), (Value.slice Aa r_.owners.length Ca), (Value.slice Ab r_.costs.length Cb)].toArray 25)] (rInt .i64) (slots.getD i_1.toNat default)) (VP.stab _ _) (fun ρ71 w72 g hle hi ht => ?_) ?_
 obtain ⟨-, hst, -⟩ := hle
 replace Fc := Fc.step hst
 refine StepOp_plain (op_indexAddr (q := (rInt .i64)) ty22 ty3 (ht 32 rfl) (ht 33 rfl) Fc rfl hc74.1 hc74.2 ?_)
 intro p75 f76
 exact Goes.same hi ⟨_, rfl, f76⟩
 refine Dw_op (VD O [(some b1, Obj.cells [(Value.int .i64 r_.slots), (Value.slice Aa r_.owners.length Ca), (Value.slice Ab r_.costs.length Cb)].toArray 25)] (vI .i64) (slots.getD i_1.toNat default)) (VD.stab _ _) (fun ρ77 w78 g hle hi ht => ?_) ?_
 obtain ⟨-, hst, -⟩ := hle
 obtain ⟨p80, q81, f82⟩ := ht 34 rfl
 refine StepOp_plain (op_loadP ty3 q81 f82 rfl ?_)
 intro v83 h84
 obtain ⟨rfl, Rf⟩ := un_int h84
 exact Goes.same hi (show Vr.vd (vI .i64) _ _ _ _ from ⟨rfl, Rf⟩)
 refine Dw_nil fun w90 g91 hl92 hi93 => ?_
 obtain ⟨-, hst94, -⟩ := hl92
 obtain ⟨hs96, p95⟩ := Step.nx hi93
 rintro v97 h98
 replace h98 : Vr.vd (vI .i64) _ _ _ _ := h98
 obtain ⟨rfl, Rg⟩ := h98
 rintro _ ⟨p100, rfl, f101⟩
 rintro _ rfl
 rintro _ rfl
 rintro v102 h103
 replace h103 : Vr.vd (vC (rSl (rInt .i64))) _ _ _ _ := h103
 obtain ⟨Af, Cf, rfl, Ff⟩ := un_sl h103
 rintro _ ⟨p105, rfl, f106⟩
 rintro _ rfl
 rintro _ rfl
 rintro _ rfl
 rintro _ rfl
 have p107 : Step (ks [(some b1, Obj.cells [(Value.int .i64 r_.slots), (Value.slice Aa r_.owners.length Ca), (Value.slice Ab r_.costs.length Cb)].toArray 25)] O) w30 (ks [(some b1, Obj.cells [(Value.int .i64 r_.slots), (Value.slice Aa r_.owners.length Ca), (Value.slice Ab r_.costs.length Cb)].toArray 25)] O) w90 := hst94.trans p95
 replace f101 := f101.step p95; replace Ff := Ff.step p95; replace f106 := f106.step p95; replace Fa := Fa.step p107; replace Fb := Fb.step p107; replace Fc := Fc.step p107; replace ch35 := ch35.trans p107; clear p107 hs31
 replace hm := ck_some hm; obtain ⟨hc108, hm⟩ := hm
 refine Rg_op rfl (op_indexAddr (q := (rInt .i64)) ty22 ty3 rfl rfl Ff rfl hc108.1 hc108.2 ?_)
 intro p109 f110
 refine Rg_op rfl (op_loadP ty3 rfl f110 rfl ?_)
 intro v111 h112
 obtain ⟨rfl, Rh⟩ := un_int h112
 refine Rg_op rfl (op_addw rfl rfl ?_)
 refine Rg_op rfl (op_assign (v := (Value.int .i64 (IntKind.wrap .i64 (sum_1 + ((r_.costs.getD i_1.toNat default).getD (slots.getD i_1.toNat default).toNat default))))) rfl ?_)
 refine Rg_nil (Wp_seq ?_)
 clear f101 Ff f106 f110
 refine Wp_region ?_
 refine Rg_op rfl (op_move (v := (Value.slice Ac slots.length Cc)) rfl ?_)
 refine Rg_op rfl (op_move (v := (Value.int .i64 i_1)) rfl ?_)
 replace hm := ck_some hm; obtain ⟨hc114, hm⟩ := hm
 refine Rg_op rfl (op_indexAddr (q := (rInt .i64)) ty22 ty3 rfl rfl Fc rfl hc114.1 hc114.2 ?_)
 intro p115 f116
 refine Rg_op rfl (op_loadP ty3 rfl f116 rfl ?_)
 intro v117 h118
 obtain ⟨rfl, Ri⟩ := un_int h118
 refine Rg_op rfl (op_move (v := (Value.int .i64 i_1)) rfl ?_)
 refine Rg_op rfl (op_neq rfl rfl ?_)
 refine Rg_nil ?_
 refine Wp_cond rfl (fun hc120 => ?_) (fun hc120 => ?_)
 replace hm := bif_t hm hc120
 clear f116
 refine Wp_region ?_
 refine Rg_op rfl (op_move (v := (Value.int .i64 moves_1)) rfl ?_)
 refine Rg_op rfl (op_addw rfl rfl ?_)
 refine Rg_op rfl (op_assign (v := (Value.int .i64 (IntKind.wrap .i64 (moves_1 + 1)))) rfl ?_)
 refine Rg_nil ?_
 refine Wp_reset2 [8, 9, 10, 20, 21, 22, 23, 24, 25, 26, 27, 28, 29, 30, 31, 32, 33, 34, 35, 36, 37, 38, 39, 40, 41, 42, 43, 44, 45, 46] [] (updL ⟨ξ25, []⟩ [(1, (Value.slice Ac slots.length Cc)), (2, (Value.pointer (some ⟨b1, 0, none⟩))), (8, (Value.int .i64 0)), (9, (Value.int .i64 0)), (10, (Value.int .i64 0))]) [(8, (Value.int .i64 (IntKind.wrap .i64 (sum_1 + ((r_.costs.getD i_1.toNat default).getD (slots.getD i_1.toNat default).toNat default))))), (9, (Value.int .i64 (IntKind.wrap .i64 (moves_1 + 1)))), (10, (Value.int .i64 i_1))] (by repeat (first | with_reducible exact Out.refl _ _ | refine Out.upd ?_ rfl | refine Out.updL ?_ rfl | refine Out.mix' ?_ rfl | exact Out.refl _ _)) rfl ⟨rfl, rfl, rfl, trivial⟩ fun ξ121 => ?_
 refine Wp_region ?_
 refine Rg_op rfl (op_move (v := (Value.int .i64 i_1)) rfl ?_)
 refine Rg_op rfl (op_addw rfl rfl ?_)
 refine Rg_op rfl (op_assign (v := (Value.int .i64 (IntKind.wrap .i64 (i_1 + 1)))) rfl ?_)
 refine Rg_nil ?_
 exact hK28 _ _ ⟨(IntKind.wrap .i64 (sum_1 + ((r_.costs.getD i_1.toNat default).getD (slots.getD i_1.toNat default).toNat default))), (IntKind.wrap .i64 (moves_1 + 1)), (IntKind.wrap .i64 (i_1 + 1)), _, rfl, ⟨(by repeat (first | with_reducible exact Out.refl _ _ | refine Out.upd ?_ rfl | refine Out.updL ?_ rfl | refine Out.mix' ?_ rfl | exact Out.refl _ _)), rfl, rfl, rfl, rfl, trivial⟩, ch35, hs96, (inK_wrap .i64 _), (inK_wrap .i64 _), (inK_wrap .i64 _), jnE3 hsf27 hm⟩
 replace hm := bif_f hm hc120
 refine Wp_skip ?_
 clear f116
 refine Wp_region ?_
 refine Rg_op rfl (op_move (v := (Value.int .i64 i_1)) rfl ?_)
 refine Rg_op rfl (op_addw rfl rfl ?_)
 refine Rg_op rfl (op_assign (v := (Value.int .i64 (IntKind.wrap .i64 (i_1 + 1)))) rfl ?_)
 refine Rg_nil ?_
 exact hK28 _ _ ⟨(IntKind.wrap .i64 (sum_1 + ((r_.costs.getD i_1.toNat default).getD (slots.getD i_1.toNat default).toNat default))), moves_1, (IntKind.wrap .i64 (i_1 + 1)), _, rfl, ⟨(by repeat (first | with_reducible exact Out.refl _ _ | refine Out.upd ?_ rfl | refine Out.updL ?_ rfl | refine Out.mix' ?_ rfl | exact Out.refl _ _)), rfl, rfl, rfl, rfl, trivial⟩, ch35, hs96, (inK_wrap .i64 _), Rd, (inK_wrap .i64 _), jnE3 hsf27 hm⟩
 replace hm := bif_f hm hc37
 refine Wp_exit (Wp_seq ?_)
 obtain ⟨hs122, p123⟩ := hs31.sub (bs' := []) (.cons _ List.Sublist.slnil)
 clear Fa Fb Fc
 replace ch35 := ch35.trans p123; clear p123 hs31
 refine Wp_region ?_
 refine Rg_op rfl (op_move (v := (Value.int .i64 sum_1)) rfl ?_)
 refine Rg_op rfl (op_move (v := (Value.int .i64 moves_1)) rfl ?_)
 refine Rg_op rfl (op_buildSlice (cs := [(Value.int .i64 sum_1), (Value.int .i64 moves_1)]) (parts := [(0, .tmp 47), (1, .tmp 48)]) ty22 ty3 hs122 (by decide) rfl ?_)
 intro b124 w125 hx128 p126 hs127
 replace ch35 := ch35.trans p126; clear p126 hs122
 refine Rg_op rfl (op_assign (v := (Value.slice (some ⟨b124, 0, none⟩) 2 2)) rfl ?_)
 refine Rg_op rfl (op_assign (v := (Value.int .i64 0)) rfl ?_)
 refine Rg_nil ?_
 refine Wp_ret ?_
 obtain ⟨hs131, p132, f130⟩ := St.publish (i := 0) (o := 0) (c := 2) (xs := [sum_1, moves_1]) hs127 rfl (show Els (rInt .i64) _ _ [(Value.int .i64 sum_1), (Value.int .i64 moves_1)] [sum_1, moves_1] from ⟨_, _, rfl, (mk_int Rc), ⟨_, _, rfl, (mk_int Rd), Els.nil⟩⟩) (le_lit rfl) (le_lit rfl) (le_lit rfl)
 replace ch35 := ch35.trans p132; clear p132 hs127
 have hz := step_all hs131
 replace f130 := f130.step hz
 refine ⟨_, (show Closes [] _ _ from rfl), [(Value.slice (some ⟨b124, 0, none⟩) [sum_1, moves_1].length 2), (Value.int .i64 0)], ⟨rfl, rfl, trivial⟩, hs131.ext, ?_⟩
 exact Vr.eq (a := (vT2 (vC (rSl (rInt .i64))) (vI .i64))) (x := ([sum_1, moves_1], 0)) (mkT2 (mkC (mk_sl f130)) ⟨rfl, (show InK .i64 0 from by decide)⟩) (Option.some.inj hm)

def m59_overflightref38_flightWith_B0 (slots : List Int) (slot : Int) (sf3 : Int → Option Int) (i_1 : Int) : Option Int :=
 bif (decide (i_1 < (slots.length : Int))) then
  ck ((0 : Int) ≤ i_1 ∧ i_1 < (slots.length : Int)) <|
  bif (decide ((slots.getD i_1.toNat default) = slot)) then
   some i_1
  else
   sf3 (IntKind.wrap .i64 (i_1 + 1))
 else
  some (-1)

def m59_overflightref38_flightWith (slots : List Int) (slot : Int) : Option Int :=
 loop1 (m59_overflightref38_flightWith_B0 slots slot) (((slots.length : Int) - 0).toNat + 1) 0

theorem c59_overflightref38_flightWith {w : World} {O : List Nat} {slots : List Int} {slot : Int} {Aa : Option Addr} {Ca : Nat} (hO : ∀ k ∈ O, k < w.heap.size) (Fa : SlR (rInt .i64) w O Aa Ca slots) (Ra : InK .i64 slot) {x : Int} (hm : m59_overflightref38_flightWith slots slot = some x) :
 Ok Try.prog 59 [(Value.slice Aa slots.length Ca), (Value.int .i64 slot)] w O (vI .i64) x := by
 unfold m59_overflightref38_flightWith at hm
 refine Fn_of_Wp (n := 19) (xs := [.tmp 4]) Try.func59 rfl Try.ntmps59 Try.results59 rfl ?_
 have hs := St.start hO
 refine Wp_seq (Wp_region ?_)
 refine Rg_op rfl (op_assign (v := (Value.int .i64 0)) rfl ?_)
 refine Rg_nil (Wp_seq (Wp_seq (Wp_region ?_)))
 refine Rg_op rfl (op_assign (v := (Value.int .i64 0)) rfl ?_)
 refine Rg_nil (Wp_block ?_)
 refine Wp_reset [] [(0, (Value.slice Aa slots.length Ca)), (1, (Value.int .i64 slot)), (5, (Value.int .i64 0))] rfl ⟨rfl, rfl, rfl, trivial⟩ fun ξ2 => ?_
 refine Wp_loopM [4, 5, 6, 7, 8, 9, 10, 11, 12, 13, 14, 15, 16, 17, 18] (fun m fr w' => ∃ (i_1 : Int) (Ebs : Ents), Ebs = [] ∧ fr [] [(5, (Value.int .i64 i_1))] ∧ Step (ks [] O) w (ks Ebs O) w' ∧ St ⟨w, [], []⟩ O w' Ebs ∧ InK .i64 i_1 ∧ loop1 (m59_overflightref38_flightWith_B0 slots slot) m i_1 = some x) (((slots.length : Int) - 0).toNat + 1) ⟨0, _, rfl, ⟨Out.refl _ _, rfl, rfl, trivial⟩, Step.refl _ _, hs, (show InK .i64 0 from by decide), hm⟩ ?_ ?_
 rintro _ _ ⟨_, _, _, _, _, _, _, hm⟩; exact loop1_z hm
 rintro m6 K5 hK5 ρ11 w7 ⟨i_1, Ebs, hEbs, hfr10, hst9, hs8, Rb, hm⟩
 obtain ⟨sf3, hsf4, hm⟩ := loop1_s hm; unfold m59_overflightref38_flightWith_B0 at hm
 subst hEbs; rw [hfr10.eq]; clear hfr10
 replace Fa := Fa.step hst9
 have ch12 := hst9
 refine Wp_seq (Wp_seq (Wp_region ?_))
 refine Rg_op rfl (op_move (v := (Value.int .i64 i_1)) rfl ?_)
 refine Rg_op rfl (op_move (v := (Value.slice Aa slots.length Ca)) rfl ?_)
 refine Rg_op rfl (op_len Try.underlying22 rfl ?_)
 have rl13 := inK_len Fa
 refine Rg_op rfl (op_lss rfl rfl ?_)
 refine Rg_nil ?_
 refine Wp_cond rfl (fun hc14 => ?_) (fun hc14 => ?_)
 replace hm := bif_t hm hc14
 refine Wp_skip (Wp_seq (Wp_block (Wp_seq (Wp_region ?_))))
 refine Rg_op rfl (op_move (v := (Value.slice Aa slots.length Ca)) rfl ?_)
 refine Rg_op rfl (op_move (v := (Value.int .i64 i_1)) rfl ?_)
 replace hm := ck_some hm; obtain ⟨hc15, hm⟩ := hm
 refine Rg_op rfl (op_indexAddr (q := (rInt .i64)) ty22 ty3 rfl rfl Fa rfl hc15.1 hc15.2 ?_)
 intro p16 f17
 refine Rg_op rfl (op_loadP ty3 rfl f17 rfl ?_)
 intro v18 h19
 obtain ⟨rfl, Rc⟩ := un_int h19
 refine Rg_op rfl (op_move (v := (Value.int .i64 slot)) rfl ?_)
 refine Rg_op rfl (op_eql rfl rfl ?_)
 refine Rg_nil ?_
 refine Wp_cond rfl (fun hc21 => ?_) (fun hc21 => ?_)
 replace hm := bif_t hm hc21
 refine Wp_seq ?_
 clear Fa f17
 refine Wp_region ?_
 refine Rg_op rfl (op_move (v := (Value.int .i64 i_1)) rfl ?_)
 refine Rg_op rfl (op_assign (v := (Value.int .i64 i_1)) rfl ?_)
 refine Rg_nil ?_
 refine Wp_ret ?_
 have hz := step_all hs8
 refine ⟨_, (show Closes [] _ _ from rfl), [(Value.int .i64 i_1)], ⟨rfl, trivial⟩, hs8.ext, ?_⟩
 exact Vr.eq (a := (vI .i64)) (x := i_1) ⟨rfl, Rb⟩ (Option.some.inj hm)
 replace hm := bif_f hm hc21
 refine Wp_skip ?_
 clear f17
 refine Wp_region ?_
 refine Rg_op rfl (op_move (v := (Value.int .i64 i_1)) rfl ?_)
 refine Rg_op rfl (op_addw rfl rfl ?_)
 refine Rg_op rfl (op_assign (v := (Value.int .i64 (IntKind.wrap .i64 (i_1 + 1)))) rfl ?_)
 refine Rg_nil ?_
 exact hK5 _ _ ⟨(IntKind.wrap .i64 (i_1 + 1)), _, rfl, ⟨(by repeat (first | with_reducible exact Out.refl _ _ | refine Out.upd ?_ rfl | refine Out.updL ?_ rfl | refine Out.mix' ?_ rfl | exact Out.refl _ _)), rfl, rfl, trivial⟩, ch12, hs8, (inK_wrap .i64 _), jnE1 hsf4 hm⟩
 replace hm := bif_f hm hc14
 refine Wp_exit (Wp_seq ?_)
 clear Fa
 refine Wp_region ?_
 refine Rg_op rfl (op_assign (v := (Value.int .i64 (-1))) rfl ?_)
 refine Rg_nil ?_
 refine Wp_ret ?_
 have hz := step_all hs8
 refine ⟨_, (show Closes [] _ _ from rfl), [(Value.int .i64 (-1))], ⟨rfl, trivial⟩, hs8.ext, ?_⟩
 exact Vr.eq (a := (vI .i64)) (x := (-1)) ⟨rfl, (show InK .i64 (-1) from by decide)⟩ (Option.some.inj hm)

def m36_overflightref38_follow_B0 (slots : List Int) (first : Int) (sf18 : (List Int) → Int → Option (List Int)) (l_1 : List Int) (next_1 : Int) : Option (List Int) :=
 jn (fun (v_1 : Bool) =>
  bif v_1 then
   ck ((l_1.length + [next_1].length) * 8 ≤ 140737488355328) <|
   (m59_overflightref38_flightWith slots next_1).bind fun flightwith_2 =>
   sf18 (l_1 ++ [next_1]) flightwith_2
  else
   some l_1)
 (fun k31 =>
  bif (decide (0 ≤ next_1)) then
   k31 (decide (next_1 ≠ first))
  else
   k31 false)

def m36_overflightref38_follow (slots : List Int) (first : Int) : Option (List Int) :=
 (m59_overflightref38_flightWith slots first).bind fun flightwith_1 =>
 loop2 (m36_overflightref38_follow_B0 slots first) (1000000) [first] flightwith_1

theorem g36_overflightref38_follow {w : World} {O : List Nat} {slots : List Int} {first : Int} {Aa : Option Addr} {Ca : Nat} (hO : ∀ k ∈ O, k < w.heap.size) (Fa : SlR (rInt .i64) w O Aa Ca slots) (Ra : InK .i64 first) {x : (List Int)} (hm : m36_overflightref38_follow slots first = some x) :
 OkG Try.prog 36 [(Value.slice Aa slots.length Ca), (Value.int .i64 first)] w O (rInt .i64) 3 x := by
 unfold m36_overflightref38_follow at hm
 refine Fn_of_Wp (n := 27) (xs := [.tmp 4]) Try.func36 rfl Try.ntmps36 Try.results36 rfl ?_
 have hs := St.start hO
 refine Wp_seq (Wp_region ?_)
 refine Rg_op rfl (op_assign (v := (Value.slice none 0 0)) rfl ?_)
 refine Rg_nil (Wp_seq (Wp_region ?_))
 refine Rg_op rfl (op_move (v := (Value.int .i64 first)) rfl ?_)
 refine Rg_op rfl (op_buildSlice (cs := [(Value.int .i64 first)]) (parts := [(0, .tmp 7)]) ty22 ty3 hs (by decide) rfl ?_)
 intro b1 w2 hx5 p3 hs4
 replace Fa := Fa.step p3; clear p3
 refine Rg_op rfl (op_assign (v := (Value.slice (some ⟨b1, 0, none⟩) 1 1)) rfl ?_)
 refine Rg_nil (Wp_seq (Wp_region ?_))
 refine Rg_op rfl (op_move (v := (Value.slice Aa slots.length Ca)) rfl ?_)
 refine Rg_op rfl (op_move (v := (Value.int .i64 first)) rfl ?_)
 replace hm := bd hm; obtain ⟨flightwith_1, hv7, hm⟩ := hm
 refine Rg_op rfl (op_call Try.call59 (c59_overflightref38_flightWith (slots := slots) (slot := first) hs4.ltw Fa Ra hv7) rfl ?_)
 rintro v8 w9 ⟨hx10, h11⟩
 have hs12 := hs4.call hx10
 have p13 := Step.ext (O := ks [(some b1, Obj.cells [(Value.int .i64 first)].toArray 3)] O) hx10
 clear hx10
 replace Fa := Fa.step p13; clear p13 hs4
 obtain ⟨rfl, Rb⟩ := h11
 refine Rg_op rfl (op_assign (v := (Value.int .i64 flightwith_1)) rfl ?_)
 refine Rg_nil (Wp_seq (Wp_block ?_))
 refine Wp_reset [] [(0, (Value.slice Aa slots.length Ca)), (1, (Value.int .i64 first)), (5, (Value.slice (some ⟨b1, 0, none⟩) 1 1)), (6, (Value.int .i64 flightwith_1))] rfl ⟨rfl, rfl, rfl, rfl, trivial⟩ fun ξ17 => ?_
 have f22 := Gs.of_cells (p := (rInt .i64)) (e := 3) (bl := b1) (c := 1) (w := w9) (O := ks [(some b1, Obj.cells [(Value.int .i64 first)].toArray 3)] O) (show Els (rInt .i64) _ _ [(Value.int .i64 first)] [first] from ⟨_, _, rfl, (mk_int Ra), Els.nil⟩) rfl (le_lit rfl)
 refine Wp_loopM [5, 6, 12, 13, 14, 15, 16, 17, 18, 19, 20, 21, 22, 23, 24, 25] (fun m fr w' => ∃ (l_1 : List Int) (next_1 : Int) (Ab : Option Addr) (Cb : Nat) (k_g15 : Option Nat) (o_g15 : Obj) (Ebs : Ents), Ebs = [(k_g15, o_g15)] ∧ fr [] [(5, (Value.slice Ab l_1.length Cb)), (6, (Value.int .i64 next_1))] ∧ Step (ks [(some b1, Obj.cells [(Value.int .i64 first)].toArray 3)] O) w9 (ks Ebs O) w' ∧ St ⟨w, [], []⟩ O w' Ebs ∧ Gs (rInt .i64) 3 w' (ks Ebs O) Ab Cb l_1 k_g15 o_g15 ∧ InK .i64 next_1 ∧ loop2 (m36_overflightref38_follow_B0 slots first) m l_1 next_1 = some x) (1000000) ⟨[first], flightwith_1, (some ⟨b1, 0, none⟩), 1, (some b1), (Obj.cells [(Value.int .i64 first)].toArray 3), _, rfl, ⟨Out.refl _ _, rfl, rfl, rfl, trivial⟩, Step.refl _ _, hs12, f22, Rb, hm⟩ ?_ ?_
 rintro _ _ ⟨_, _, _, _, _, _, _, _, _, _, _, _, _, hm⟩; exact loop2_z hm
 rintro m21 K20 hK20 ρ27 w23 ⟨l_1, next_1, Ab, Cb, k_g15, o_g15, Ebs, hEbs, hfr26, hst25, hs24, Fb, Rc, hm⟩
 obtain ⟨sf18, hsf19, hm⟩ := loop2_s hm; unfold m36_overflightref38_follow_B0 at hm
 subst hEbs; rw [hfr26.eq]; clear hfr26
 replace Fa := Fa.step hst25; replace f22 := f22.step hst25
 have ch28 := hst25
 refine Wp_seq ?_
 refine Wp_reset2 [5, 6, 12, 13, 14, 15, 16, 17, 18, 19, 20, 21, 22, 23, 24, 25] [] (updL ⟨ξ17, []⟩ [(0, (Value.slice Aa slots.length Ca)), (1, (Value.int .i64 first)), (5, (Value.slice (some ⟨b1, 0, none⟩) 1 1)), (6, (Value.int .i64 flightwith_1))]) [(5, (Value.slice Ab l_1.length Cb)), (6, (Value.int .i64 next_1))] (by repeat (first | with_reducible exact Out.refl _ _ | refine Out.upd ?_ rfl | refine Out.updL ?_ rfl | refine Out.mix' ?_ rfl | exact Out.refl _ _)) rfl ⟨rfl, rfl, trivial⟩ fun ξ29 => ?_
 replace hm := jn_elim hm; obtain ⟨k31, hk32, hm⟩ := hm
 refine Wp_seqJ [12, 13, 14, 15, 16, 17, 18] (fun fr w' => ∃ (v_1 : Bool) (Ebs : Ents), Ebs = [(k_g15, o_g15)] ∧ fr [] [(18, (Value.bool v_1))] ∧ Step (ks [(k_g15, o_g15)] O) w23 (ks Ebs O) w' ∧ St ⟨w, [], []⟩ O w' Ebs ∧ k31 v_1 = some x) ?_ ?_
 rintro ρ38 w34 ⟨v_1, Ebs, hEbs, hfr37, hst36, hs35, hm⟩
 replace hm := jnE1 hk32 hm
 subst hEbs; rw [hfr37.eq]; clear hfr37
 replace Fa := Fa.step hst36; replace f22 := f22.step hst36; replace Fb := Fb.step hst36; replace ch28 := ch28.trans hst36; clear hst36 hs24
 refine Wp_cond rfl (fun hc39 => ?_) (fun hc39 => ?_)
 replace hm := bif_t hm hc39
 refine Wp_skip (Wp_block (Wp_seq ?_))
 clear f22
 refine Wp_region ?_
 refine Rg_op rfl (op_move (v := (Value.slice Ab l_1.length Cb)) rfl ?_)
 refine Rg_op rfl (op_move (v := (Value.int .i64 next_1)) rfl ?_)
 refine Rg_op rfl (op_buildSlice (cs := [(Value.int .i64 next_1)]) (parts := [(0, .tmp 20)]) ty22 ty3 hs35 (by decide) rfl ?_)
 intro b40 w41 hx44 p42 hs43
 replace Fa := Fa.step p42; replace Fb := Fb.step p42; replace ch28 := ch28.trans p42; clear p42 hs35
 replace hm := ck_some hm; obtain ⟨hc46, hm⟩ := hm
 refine Rg_op rfl (op_append (q := (rInt .i64)) (i := 1) (xs := l_1) (ys := [next_1]) (news := [(Value.int .i64 next_1)]) ty22 ty3 rfl (by decide) hs43 rfl rfl Fb rfl (Src.owned' (len := 1) (hs43.get (i := 0) rfl) rfl) (show Els (rInt .i64) _ _ [(Value.int .i64 next_1)] [next_1] from ⟨_, _, rfl, (mk_int Rc), Els.nil⟩) hc46 (by have := hc46; simp only [maxLen]; omega) ?_)
 intro a50 c51 k52 o53 w47 p48 hs49 f54
 replace Fa := Fa.step p48; replace ch28 := ch28.trans p48; clear p48 hs43
 have hs55 := hs49.drop 0
 replace Fa := Fa.step (hs49.dropS 0)
 replace f54 := f54.step (hs49.dropS 0)
 replace ch28 := ch28.trans (hs49.dropS 0); clear hs49
 refine Rg_op rfl (op_assign (v := (Value.slice a50 (l_1 ++ [next_1]).length c51)) rfl ?_)
 refine Rg_nil (Wp_region ?_)
 refine Rg_op rfl (op_move (v := (Value.slice Aa slots.length Ca)) rfl ?_)
 refine Rg_op rfl (op_move (v := (Value.int .i64 next_1)) rfl ?_)
 replace hm := bd hm; obtain ⟨flightwith_2, hv56, hm⟩ := hm
 refine Rg_op rfl (op_call Try.call59 (c59_overflightref38_flightWith (slots := slots) (slot := next_1) hs55.ltw Fa Rc hv56) rfl ?_)
 rintro v57 w58 ⟨hx59, h60⟩
 have hs61 := hs55.call hx59
 have p62 := Step.ext (O := ks [(k52, o53)] O) hx59
 clear hx59
 replace Fa := Fa.step p62; replace f54 := f54.step p62; replace ch28 := ch28.trans p62; clear p62 hs55
 obtain ⟨rfl, Rd⟩ := h60
 refine Rg_op rfl (op_assign (v := (Value.int .i64 flightwith_2)) rfl ?_)
 refine Rg_nil ?_
 exact hK20 _ _ ⟨(l_1 ++ [next_1]), flightwith_2, a50, c51, k52, o53, _, rfl, ⟨(by repeat (first | with_reducible exact Out.refl _ _ | refine Out.upd ?_ rfl | refine Out.updL ?_ rfl | refine Out.mix' ?_ rfl | exact Out.refl _ _)), rfl, rfl, rfl, trivial⟩, ch28, hs61, f54, Rd, jnE2 hsf19 hm⟩
 replace hm := bif_f hm hc39
 refine Wp_exit (Wp_seq ?_)
 clear Fa f22
 refine Wp_region ?_
 refine Rg_op rfl (op_move (v := (Value.slice Ab l_1.length Cb)) rfl ?_)
 refine Rg_op rfl (op_assign (v := (Value.slice Ab l_1.length Cb)) rfl ?_)
 refine Rg_nil ?_
 refine Wp_ret ?_
 refine ⟨_, (show Closes [] _ _ from rfl), [(Value.slice Ab l_1.length Cb)], ⟨rfl, trivial⟩, hs35.ext, ?_⟩
 exact OkG.mk (i := 0) hs35 rfl Fb (Option.some.inj hm)
 intro K33 hK33
 have ch64 := Step.refl (ks [(k_g15, o_g15)] O) w23
 clear f22
 refine Wp_region ?_
 refine Rg_op rfl (op_move (v := (Value.int .i64 next_1)) rfl ?_)
 refine Rg_op rfl (op_geq rfl rfl ?_)
 refine Rg_op rfl (op_move (v := (Value.bool (decide (0 ≤ next_1)))) rfl ?_)
 refine Rg_case (fun hg65 => ?_) (fun hg65 => ?_)
 replace hm := bif_t hm hg65
 refine Rg_opg rfl rfl rfl (op_move (v := (Value.int .i64 next_1)) rfl ?_)
 refine Rg_opg rfl rfl rfl (op_move (v := (Value.int .i64 first)) rfl ?_)
 refine Rg_opg rfl rfl rfl (op_neq rfl rfl ?_)
 refine Rg_op rfl (op_pick_t (v := (Value.bool (decide (next_1 ≠ first)))) rfl rfl ?_)
 refine Rg_nil ?_
 exact hK33 _ _ ⟨(decide (next_1 ≠ first)), _, rfl, ⟨(by repeat (first | with_reducible exact Out.refl _ _ | refine Out.upd ?_ rfl | refine Out.updL ?_ rfl | refine Out.mix' ?_ rfl | exact Out.refl _ _)), rfl, rfl, trivial⟩, ch64, hs24, hm⟩
 replace hm := bif_f hm hg65
 iterate 3 refine Rg_opx rfl (asB_ne rfl rfl) rfl ?_
 refine Rg_op rfl (op_pick_f (v := (Value.bool false)) rfl rfl ?_)
 refine Rg_nil ?_
 exact hK33 _ _ ⟨false, _, rfl, ⟨(by repeat (first | with_reducible exact Out.refl _ _ | refine Out.upd ?_ rfl | refine Out.updL ?_ rfl | refine Out.mix' ?_ rfl | exact Out.refl _ _)), rfl, rfl, trivial⟩, ch64, hs24, hm⟩
def m37_overflightref38_least_B0 (l : List Int) (sf10 : Int → Int → Option Int) (n_1 : Int) (i_1 : Int) : Option Int :=
 bif (decide (i_1 < (l.length : Int))) then
  ck ((0 : Int) ≤ i_1 ∧ i_1 < (l.length : Int)) <|
  sf10 (min n_1 (l.getD i_1.toNat default)) (IntKind.wrap .i64 (i_1 + 1))
 else
  some n_1

def m37_overflightref38_least (l : List Int) : Option Int :=
 ck ((0 : Int) ≤ 0 ∧ 0 < (l.length : Int)) <|
 loop2 (m37_overflightref38_least_B0 l) (((l.length : Int) - 0).toNat + 1) (l.getD 0 default) 0

theorem c37_overflightref38_least {w : World} {O : List Nat} {l : List Int} {Aa : Option Addr} {Ca : Nat} (hO : ∀ k ∈ O, k < w.heap.size) (Fa : SlR (rInt .i64) w O Aa Ca l) {x : Int} (hm : m37_overflightref38_least l = some x) :
 Ok Try.prog 37 [(Value.slice Aa l.length Ca)] w O (vI .i64) x := by
 unfold m37_overflightref38_least at hm
 refine Fn_of_Wp (n := 21) (xs := [.tmp 2]) Try.func37 rfl Try.ntmps37 Try.results37 rfl ?_
 have hs := St.start hO
 refine Wp_seq (Wp_region ?_)
 refine Rg_op rfl (op_assign (v := (Value.int .i64 0)) rfl ?_)
 refine Rg_nil (Wp_seq (Wp_region ?_))
 refine Rg_op rfl (op_move (v := (Value.slice Aa l.length Ca)) rfl ?_)
 replace hm := ck_some hm; obtain ⟨hc1, hm⟩ := hm
 refine Rg_op rfl (op_indexAddr (q := (rInt .i64)) ty22 ty3 rfl rfl Fa rfl hc1.1 hc1.2 ?_)
 intro p2 f3
 refine Rg_op rfl (op_loadP ty3 rfl f3 rfl ?_)
 intro v4 h5
 obtain ⟨rfl, Ra⟩ := un_int h5
 refine Rg_op rfl (op_assign (v := (Value.int .i64 (l.getD 0 default))) rfl ?_)
 refine Rg_nil (Wp_seq (Wp_seq ?_))
 clear f3
 refine Wp_region ?_
 refine Rg_op rfl (op_assign (v := (Value.int .i64 0)) rfl ?_)
 refine Rg_nil (Wp_block ?_)
 refine Wp_reset [] [(0, (Value.slice Aa l.length Ca)), (3, (Value.int .i64 (l.getD 0 default))), (4, (Value.int .i64 0))] rfl ⟨rfl, rfl, rfl, trivial⟩ fun ξ9 => ?_
 refine Wp_loopM [3, 4, 8, 9, 10, 11, 12, 13, 14, 15, 16, 17, 18, 19] (fun m fr w' => ∃ (n_1 : Int) (i_1 : Int) (Ebs : Ents), Ebs = [] ∧ fr [] [(3, (Value.int .i64 n_1)), (4, (Value.int .i64 i_1))] ∧ Step (ks [] O) w (ks Ebs O) w' ∧ St ⟨w, [], []⟩ O w' Ebs ∧ InK .i64 n_1 ∧ InK .i64 i_1 ∧ loop2 (m37_overflightref38_least_B0 l) m n_1 i_1 = some x) (((l.length : Int) - 0).toNat + 1) ⟨(l.getD 0 default), 0, _, rfl, ⟨Out.refl _ _, rfl, rfl, rfl, trivial⟩, Step.refl _ _, hs, Ra, (show InK .i64 0 from by decide), hm⟩ ?_ ?_
 rintro _ _ ⟨_, _, _, _, _, _, _, _, _, hm⟩; exact loop2_z hm
 rintro m13 K12 hK12 ρ18 w14 ⟨n_1, i_1, Ebs, hEbs, hfr17, hst16, hs15, Rb, Rc, hm⟩
 obtain ⟨sf10, hsf11, hm⟩ := loop2_s hm; unfold m37_overflightref38_least_B0 at hm
 subst hEbs; rw [hfr17.eq]; clear hfr17
 replace Fa := Fa.step hst16
 have ch19 := hst16
 refine Wp_seq (Wp_seq (Wp_region ?_))
 refine Rg_op rfl (op_move (v := (Value.int .i64 i_1)) rfl ?_)
 refine Rg_op rfl (op_move (v := (Value.slice Aa l.length Ca)) rfl ?_)
 refine Rg_op rfl (op_len Try.underlying22 rfl ?_)
 have rl20 := inK_len Fa
 refine Rg_op rfl (op_lss rfl rfl ?_)
 refine Rg_nil ?_
 refine Wp_cond rfl (fun hc21 => ?_) (fun hc21 => ?_)
 replace hm := bif_t hm hc21
 refine Wp_skip (Wp_seq (Wp_block (Wp_region ?_)))
 refine Rg_op rfl (op_move (v := (Value.int .i64 n_1)) rfl ?_)
 refine Rg_op rfl (op_move (v := (Value.slice Aa l.length Ca)) rfl ?_)
 refine Rg_op rfl (op_move (v := (Value.int .i64 i_1)) rfl ?_)
 replace hm := ck_some hm; obtain ⟨hc22, hm⟩ := hm
 refine Rg_op rfl (op_indexAddr (q := (rInt .i64)) ty22 ty3 rfl rfl Fa rfl hc22.1 hc22.2 ?_)
 intro p23 f24
 refine Rg_op rfl (op_loadP ty3 rfl f24 rfl ?_)
 intro v25 h26
 obtain ⟨rfl, Rd⟩ := un_int h26
 refine Rg_op rfl (op_min rfl rfl ?_)
 refine Rg_op rfl (op_assign (v := (Value.int .i64 (min n_1 (l.getD i_1.toNat default)))) rfl ?_)
 refine Rg_nil ?_
 clear f24
 refine Wp_region ?_
 refine Rg_op rfl (op_move (v := (Value.int .i64 i_1)) rfl ?_)
 refine Rg_op rfl (op_addw rfl rfl ?_)
 refine Rg_op rfl (op_assign (v := (Value.int .i64 (IntKind.wrap .i64 (i_1 + 1)))) rfl ?_)
 refine Rg_nil ?_
 exact hK12 _ _ ⟨(min n_1 (l.getD i_1.toNat default)), (IntKind.wrap .i64 (i_1 + 1)), _, rfl, ⟨(by repeat (first | with_reducible exact Out.refl _ _ | refine Out.upd ?_ rfl | refine Out.updL ?_ rfl | refine Out.mix' ?_ rfl | exact Out.refl _ _)), rfl, rfl, rfl, trivial⟩, ch19, hs15, (inK_min Rb Rd), (inK_wrap .i64 _), jnE2 hsf11 hm⟩
 replace hm := bif_f hm hc21
 refine Wp_exit (Wp_seq ?_)
 clear Fa
 refine Wp_region ?_
 refine Rg_op rfl (op_move (v := (Value.int .i64 n_1)) rfl ?_)
 refine Rg_op rfl (op_assign (v := (Value.int .i64 n_1)) rfl ?_)
 refine Rg_nil ?_
 refine Wp_ret ?_
 have hz := step_all hs15
 refine ⟨_, (show Closes [] _ _ from rfl), [(Value.int .i64 n_1)], ⟨rfl, trivial⟩, hs15.ext, ?_⟩
 exact Vr.eq (a := (vI .i64)) (x := n_1) ⟨rfl, Rb⟩ (Option.some.inj hm)

end Go.Fx
