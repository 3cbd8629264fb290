/- Part 4 of the proof: a round that Best answers is one that nobody spoils: no group of owners blocks it, whatever it be. -/
import Derived.Test.YtnenhpedfcngbaaFair3
set_option linter.unusedVariables false
set_option linter.unusedSimpArgs false
set_option maxRecDepth 100000
set_option maxHeartbeats 0
namespace Go.Fx
open Go Go.RowKit Go.Proofs
def m10_overflightlaw38_sane : Option Bool :=
 (m18_clearing_Best (⟨3, [0, 1], [[9, 2, (-1)], [4, 8, 30]]⟩ : XRound)).bind fun best_1 =>
 (m12_clearing_Value (⟨3, [0, 1], [[9, 2, (-1)], [4, 8, 30]]⟩ : XRound) best_1.1).bind fun value_1 =>
 (m14_clearing_Cycles (⟨3, [0, 1], [[9, 2, (-1)], [4, 8, 30]]⟩ : XRound) best_1.1).bind fun cycles_1 =>
 (m14_clearing_Cycles (⟨3, [0, 1], [[9, 2, (-1)], [4, 8, 30]]⟩ : XRound) [1, 2]).bind fun cycles_2 =>
 (m14_clearing_Cycles (⟨3, [0, 1], [[9, 2, (-1)], [4, 8, 30]]⟩ : XRound) [0, 1]).bind fun cycles_3 =>
 (m18_clearing_Best (⟨1, ([] : List Int), ([] : List (List Int))⟩ : XRound)).bind fun best_2 =>
 (m18_clearing_Best (⟨0, ([] : List Int), ([] : List (List Int))⟩ : XRound)).bind fun best_3 =>
 (m18_clearing_Best (⟨2, [0, 1], [[1, 2], [2, 1]]⟩ : XRound)).bind fun best_4 =>
 jn (fun (v_1 : Bool) =>
  some v_1)
 (fun k219 =>
  bif (decide (best_1.2 = 0)) then
   (m16_overflightref37_SameInts best_1.1 [1, 0]).bind fun sameints_1 =>
   bif sameints_1 then
    bif (decide (value_1.2 = 0)) then
     (m16_overflightref37_SameInts value_1.1 [6, 2]).bind fun sameints_2 =>
     bif sameints_2 then
      bif (decide (cycles_1.2 = 0)) then
       (m17_overflightref38_SameLists cycles_1.1 [[0, 1]]).bind fun samelists_1 =>
       bif samelists_1 then
        bif (decide (cycles_2.2 = 0)) then
         (m17_overflightref38_SameLists cycles_2.1 [[1, 0]]).bind fun samelists_2 =>
         bif samelists_2 then
          bif (decide (cycles_3.2 = 0)) then
           bif (decide ((cycles_3.1.length : Int) = 0)) then
            bif (decide (best_2.2 = 0)) then
             bif (decide ((best_2.1.length : Int) = 0)) then
              bif (decide (best_3.2 = 370)) then
               bif (decide (best_4.2 = 0)) then
                (m16_overflightref37_SameInts best_4.1 [0, 1]).bind fun sameints_3 =>
                bif sameints_3 then
                 (m20_clearing_Verify (⟨3, [0, 1], [[9, 2, (-1)], [4, 8, 30]]⟩ : XRound) best_1.1).bind fun verify_1 =>
                 bif (decide (verify_1 = 0)) then
                  (m20_clearing_Verify (⟨3, [0, 1], [[9, 2, (-1)], [4, 8, 30]]⟩ : XRound) [0, 1]).bind fun verify_2 =>
                  bif (decide (verify_2 = 380)) then
                   (m20_clearing_Verify (⟨3, [0, 1], [[9, 2, (-1)], [4, 8, 30]]⟩ : XRound) [1, 2]).bind fun verify_3 =>
                   k219 (decide (verify_3 = 380))
                  else
                   k219 false
                 else
                  k219 false
                else
                 k219 false
               else
                k219 false
              else
               k219 false
             else
              k219 false
            else
             k219 false
           else
            k219 false
          else
           k219 false
         else
          k219 false
        else
         k219 false
       else
        k219 false
      else
       k219 false
     else
      k219 false
    else
     k219 false
   else
    k219 false
  else
   k219 false)

theorem c10_overflightlaw38_sane {w : World} {O : List Nat} (hO : ∀ k ∈ O, k < w.heap.size) {x : Bool} (hm : m10_overflightlaw38_sane = some x) :
  Ok Try.prog 10 [] w O vB x := by
 unfold m10_overflightlaw38_sane at hm
 refine Fn_of_Wp (n := 158) (xs := [.tmp 0]) Try.func10 rfl Try.ntmps10 Try.results10 rfl ?_
 have hs := St.start hO
 refine Wp_seq ?_
 refine Wp_region ?_
 refine Rg_op rfl (op_assign (v := (Value.bool false)) rfl ?_)
 refine Rg_nil ?_
 refine Wp_seq ?_
 refine Wp_region ?_
 refine Rg_op rfl (op_buildSlice (cs := [(Value.int .i64 0), (Value.int .i64 1)]) (parts := [(0, .const (.int .i64 0)), (1, .const (.int .i64 1))]) ty22 ty3 hs (by decide) rfl ?_)
 intro b1 w2 hx5 p3 hs4
 clear p3
 refine Rg_op rfl (op_buildSlice (cs := [(Value.int .i64 9), (Value.int .i64 2), (Value.int .i64 (-1))]) (parts := [(0, .const (.int .i64 9)), (1, .const (.int .i64 2)), (2, .const (.int .i64 (-1)))]) ty22 ty3 hs4 (by decide) rfl ?_)
 intro b7 w8 hx11 p9 hs10
 clear p9 hs4
 refine Rg_op rfl (op_buildSlice (cs := [(Value.int .i64 4), (Value.int .i64 8), (Value.int .i64 30)]) (parts := [(0, .const (.int .i64 4)), (1, .const (.int .i64 8)), (2, .const (.int .i64 30))]) ty22 ty3 hs10 (by decide) rfl ?_)
 intro b13 w14 hx17 p15 hs16
 clear p15 hs10
 obtain ⟨hs20, p21, f19⟩ := St.publish (i := 1) (o := 0) (c := 3) (xs := [9, 2, (-1)]) hs16 rfl (show Els (rInt .i64) _ _ [(Value.int .i64 9), (Value.int .i64 2), (Value.int .i64 (-1))] [9, 2, (-1)] from ⟨_, _, rfl, (mk_int (show InK .i64 9 from by decide)), ⟨_, _, rfl, (mk_int (show InK .i64 2 from by decide)), ⟨_, _, rfl, (mk_int (show InK .i64 (-1) from by decide)), Els.nil⟩⟩⟩) (le_lit rfl) (le_lit rfl) (le_lit rfl)
 clear p21 hs16
 obtain ⟨hs23, p24, f22⟩ := St.publish (i := 0) (o := 0) (c := 3) (xs := [4, 8, 30]) hs20 rfl (show Els (rInt .i64) _ _ [(Value.int .i64 4), (Value.int .i64 8), (Value.int .i64 30)] [4, 8, 30] from ⟨_, _, rfl, (mk_int (show InK .i64 4 from by decide)), ⟨_, _, rfl, (mk_int (show InK .i64 8 from by decide)), ⟨_, _, rfl, (mk_int (show InK .i64 30 from by decide)), Els.nil⟩⟩⟩) (le_lit rfl) (le_lit rfl) (le_lit rfl)
 replace f19 := f19.step p24; clear p24 hs20
 refine Rg_op rfl (op_buildSlice (cs := [(Value.slice (some ⟨b7, 0, none⟩) [9, 2, (-1)].length 3), (Value.slice (some ⟨b13, 0, none⟩) [4, 8, 30].length 3)]) (parts := [(0, .tmp 20), (1, .tmp 21)]) ty23 ty22 hs23 (by decide) rfl ?_)
 intro b25 w26 hx29 p27 hs28
 replace f19 := f19.step p27; replace f22 := f22.step p27; clear p27 hs23
 have f31 := Gs.of_cells (p := (rInt .i64)) (e := 3) (bl := b1) (c := 2) (w := w26) (O := ks [(some b25, Obj.cells [(Value.slice (some ⟨b7, 0, none⟩) [9, 2, (-1)].length 3), (Value.slice (some ⟨b13, 0, none⟩) [4, 8, 30].length 3)].toArray 22), (some b1, Obj.cells [(Value.int .i64 0), (Value.int .i64 1)].toArray 3)] O) (show Els (rInt .i64) _ _ [(Value.int .i64 0), (Value.int .i64 1)] [0, 1] from ⟨_, _, rfl, (mk_int (show InK .i64 0 from by decide)), ⟨_, _, rfl, (mk_int (show InK .i64 1 from by decide)), Els.nil⟩⟩) rfl (le_lit rfl)
 have f32 := Gs.of_cells (p := (rSl (rInt .i64))) (e := 22) (bl := b25) (c := 2) (w := w26) (O := ks [(some b25, Obj.cells [(Value.slice (some ⟨b7, 0, none⟩) [9, 2, (-1)].length 3), (Value.slice (some ⟨b13, 0, none⟩) [4, 8, 30].length 3)].toArray 22), (some b1, (Obj.cells [(Value.int .i64 0), (Value.int .i64 1)].toArray 3))] O) (show Els (rSl (rInt .i64)) _ _ [(Value.slice (some ⟨b7, 0, none⟩) [9, 2, (-1)].length 3), (Value.slice (some ⟨b13, 0, none⟩) [4, 8, 30].length 3)] [[9, 2, (-1)], [4, 8, 30]] from ⟨_, _, rfl, (mk_sl f19), ⟨_, _, rfl, (mk_sl f22), Els.nil⟩⟩) rfl (le_lit rfl)
 refine Rg_op rfl (op_build (vs := [(Value.int .i64 3), (Value.slice (some ⟨b1, 0, none⟩) [0, 1].length 2), (Value.slice (some ⟨b25, 0, none⟩) [[9, 2, (-1)], [4, 8, 30]].length 2)]) (parts := [(0, .const (.int .i64 3)), (1, .tmp 19), (2, .tmp 22)]) ty25 pl25 rfl ?_)
 refine Rg_op rfl (op_alloc ty25 hs28 ?_)
 intro b33 w34 _ p35 hs36
 replace f19 := f19.step p35; replace f22 := f22.step p35; replace f31 := f31.step p35; replace f32 := f32.step p35; clear p35 hs28
 refine Rg_op_ (op_store (cs := [(Value.int .i64 0), (Value.slice none 0 0), (Value.slice none 0 0)]) (vs := [(Value.int .i64 3), (Value.slice (some ⟨b1, 0, none⟩) [0, 1].length 2), (Value.slice (some ⟨b25, 0, none⟩) [[9, 2, (-1)], [4, 8, 30]].length 2)]) (cs' := [(Value.int .i64 3), (Value.slice (some ⟨b1, 0, none⟩) [0, 1].length 2), (Value.slice (some ⟨b25, 0, none⟩) [[9, 2, (-1)], [4, 8, 30]].length 2)]) (bs' := [(some b33, Obj.cells [(Value.int .i64 3), (Value.slice (some ⟨b1, 0, none⟩) [0, 1].length 2), (Value.slice (some ⟨b25, 0, none⟩) [[9, 2, (-1)], [4, 8, 30]].length 2)].toArray 25), (some b25, (Obj.cells [(Value.slice (some ⟨b7, 0, none⟩) [9, 2, (-1)].length 3), (Value.slice (some ⟨b13, 0, none⟩) [4, 8, 30].length 3)].toArray 22)), (some b1, (Obj.cells [(Value.int .i64 0), (Value.int .i64 1)].toArray 3))]) (i := 0) ty25 hs36 rfl rfl rfl rfl rfl (le_lit rfl) rfl rfl rfl ?_)
 intro w38 p39 hs40
 replace f19 := f19.step p39; replace f22 := f22.step p39; replace f31 := f31.step p39; replace f32 := f32.step p39; clear p39 hs36
 refine Rg_nil ?_
 refine Wp_seq ?_
 clear f19 f22
 refine Wp_region ?_
 refine Rg_op rfl (op_loadA (cs := [(Value.int .i64 3), (Value.slice (some ⟨b1, 0, none⟩) [0, 1].length 2), (Value.slice (some ⟨b25, 0, none⟩) [[9, 2, (-1)], [4, 8, 30]].length 2)]) (vs := [(Value.int .i64 3), (Value.slice (some ⟨b1, 0, none⟩) [0, 1].length 2), (Value.slice (some ⟨b25, 0, none⟩) [[9, 2, (-1)], [4, 8, 30]].length 2)]) (i := 0) ty25 hs40 rfl rfl rfl rfl ?_)
 obtain ⟨hs42, p43, f41⟩ := Gs.publish (i := 2) hs40 rfl f31
 replace f32 := f32.step p43; clear p43 hs40
 obtain ⟨hs45, p46, f44⟩ := Gs.publish (i := 1) hs42 rfl f32
 replace f41 := f41.step p46; clear p46 hs42
 replace hm := bd hm; obtain ⟨best_1, hv47, hm⟩ := hm
 refine Rg_op rfl (op_call Try.call18 (c18_clearing_Best (r_ := (⟨3, [0, 1], [[9, 2, (-1)], [4, 8, 30]]⟩ : XRound)) hs45.ltw (show InK .i64 3 from by decide) f41 f44 hv47) rfl ?_)
 rintro v48 w49 ⟨hx50, h51⟩
 have hs52 := hs45.call hx50
 have p53 := Step.ext (O := ks [(some b33, Obj.cells [(Value.int .i64 3), (Value.slice (some ⟨b1, 0, none⟩) [0, 1].length 2), (Value.slice (some ⟨b25, 0, none⟩) [[9, 2, (-1)], [4, 8, 30]].length 2)].toArray 25)] O) hx50
 clear hx50
 replace f41 := f41.step p53; replace f44 := f44.step p53; clear p53 hs45
 obtain ⟨v54, v55, rfl, h56, h57⟩ := h51
 obtain ⟨a_y58, c_y58, rfl, f_y58⟩ := un_sl h56
 obtain ⟨rfl, r_y59⟩ := h57
 refine Rg_op rfl (op_move (v := (Value.tuple [(Value.slice a_y58 best_1.1.length c_y58), (Value.int .i64 best_1.2)].toArray)) rfl ?_)
 refine Rg_op rfl (op_extract (v := (Value.slice a_y58 best_1.1.length c_y58)) rfl rfl ?_)
 refine Rg_op rfl (op_extract (v := (Value.int .i64 best_1.2)) rfl rfl ?_)
 refine Rg_op rfl (op_assign (v := (Value.slice a_y58 best_1.1.length c_y58)) rfl ?_)
 refine Rg_op rfl (op_assign (v := (Value.int .i64 best_1.2)) rfl ?_)
 refine Rg_nil ?_
 refine Wp_seq ?_
 refine Wp_region ?_
 refine Rg_op rfl (op_loadA (cs := [(Value.int .i64 3), (Value.slice (some ⟨b1, 0, none⟩) [0, 1].length 2), (Value.slice (some ⟨b25, 0, none⟩) [[9, 2, (-1)], [4, 8, 30]].length 2)]) (vs := [(Value.int .i64 3), (Value.slice (some ⟨b1, 0, none⟩) [0, 1].length 2), (Value.slice (some ⟨b25, 0, none⟩) [[9, 2, (-1)], [4, 8, 30]].length 2)]) (i := 0) ty25 hs52 rfl rfl rfl rfl ?_)
 refine Rg_op rfl (op_move (v := (Value.slice a_y58 best_1.1.length c_y58)) rfl ?_)
 replace hm := bd hm; obtain ⟨value_1, hv60, hm⟩ := hm
 refine Rg_op rfl (op_call Try.call12 (c12_clearing_Value (r_ := (⟨3, [0, 1], [[9, 2, (-1)], [4, 8, 30]]⟩ : XRound)) (slots := best_1.1) hs52.ltw (show InK .i64 3 from by decide) f41 f44 f_y58 hv60) rfl ?_)
 rintro v61 w62 ⟨hx63, h64⟩
 have hs65 := hs52.call hx63
 have p66 := Step.ext (O := ks [(some b33, Obj.cells [(Value.int .i64 3), (Value.slice (some ⟨b1, 0, none⟩) [0, 1].length 2), (Value.slice (some ⟨b25, 0, none⟩) [[9, 2, (-1)], [4, 8, 30]].length 2)].toArray 25)] O) hx63
 clear hx63
 replace f41 := f41.step p66; replace f44 := f44.step p66; replace f_y58 := f_y58.step p66; clear p66 hs52
 obtain ⟨v67, v68, rfl, h69, h70⟩ := h64
 obtain ⟨a_y71, c_y71, rfl, f_y71⟩ := un_sl h69
 obtain ⟨rfl, r_y72⟩ := h70
 refine Rg_op rfl (op_move (v := (Value.tuple [(Value.slice a_y71 value_1.1.length c_y71), (Value.int .i64 value_1.2)].toArray)) rfl ?_)
 refine Rg_op rfl (op_extract (v := (Value.slice a_y71 value_1.1.length c_y71)) rfl rfl ?_)
 refine Rg_op rfl (op_extract (v := (Value.int .i64 value_1.2)) rfl rfl ?_)
 refine Rg_op rfl (op_assign (v := (Value.slice a_y71 value_1.1.length c_y71)) rfl ?_)
 refine Rg_op rfl (op_assign (v := (Value.int .i64 value_1.2)) rfl ?_)
 refine Rg_nil ?_
 refine Wp_seq ?_
 refine Wp_region ?_
 refine Rg_op rfl (op_loadA (cs := [(Value.int .i64 3), (Value.slice (some ⟨b1, 0, none⟩) [0, 1].length 2), (Value.slice (some ⟨b25, 0, none⟩) [[9, 2, (-1)], [4, 8, 30]].length 2)]) (vs := [(Value.int .i64 3), (Value.slice (some ⟨b1, 0, none⟩) [0, 1].length 2), (Value.slice (some ⟨b25, 0, none⟩) [[9, 2, (-1)], [4, 8, 30]].length 2)]) (i := 0) ty25 hs65 rfl rfl rfl rfl ?_)
 refine Rg_op rfl (op_move (v := (Value.slice a_y58 best_1.1.length c_y58)) rfl ?_)
 replace hm := bd hm; obtain ⟨cycles_1, hv73, hm⟩ := hm
 refine Rg_op rfl (op_call Try.call14 (c14_clearing_Cycles (r_ := (⟨3, [0, 1], [[9, 2, (-1)], [4, 8, 30]]⟩ : XRound)) (slots := best_1.1) hs65.ltw (show InK .i64 3 from by decide) f41 f44 f_y58 hv73) rfl ?_)
 rintro v74 w75 ⟨hx76, h77⟩
 have hs78 := hs65.call hx76
 have p79 := Step.ext (O := ks [(some b33, Obj.cells [(Value.int .i64 3), (Value.slice (some ⟨b1, 0, none⟩) [0, 1].length 2), (Value.slice (some ⟨b25, 0, none⟩) [[9, 2, (-1)], [4, 8, 30]].length 2)].toArray 25)] O) hx76
 clear hx76
 replace f41 := f41.step p79; replace f44 := f44.step p79; replace f_y58 := f_y58.step p79; replace f_y71 := f_y71.step p79; clear p79 hs65
 obtain ⟨v80, v81, rfl, h82, h83⟩ := h77
 obtain ⟨a_y84, c_y84, rfl, f_y84⟩ := un_sl h82
 obtain ⟨rfl, r_y85⟩ := h83
 refine Rg_op rfl (op_move (v := (Value.tuple [(Value.slice a_y84 cycles_1.1.length c_y84), (Value.int .i64 cycles_1.2)].toArray)) rfl ?_)
 refine Rg_op rfl (op_extract (v := (Value.slice a_y84 cycles_1.1.length c_y84)) rfl rfl ?_)
 refine Rg_op rfl (op_extract (v := (Value.int .i64 cycles_1.2)) rfl rfl ?_)
 refine Rg_op rfl (op_assign (v := (Value.slice a_y84 cycles_1.1.length c_y84)) rfl ?_)
 refine Rg_op rfl (op_assign (v := (Value.int .i64 cycles_1.2)) rfl ?_)
 refine Rg_nil ?_
 refine Wp_seq ?_
 refine Wp_reset [] [(1, (Value.pointer (some ⟨b33, 0, none⟩))), (2, (Value.slice a_y58 best_1.1.length c_y58)), (3, (Value.int .i64 best_1.2)), (4, (Value.slice a_y71 value_1.1.length c_y71)), (5, (Value.int .i64 value_1.2)), (6, (Value.slice a_y84 cycles_1.1.length c_y84)), (7, (Value.int .i64 cycles_1.2))] rfl ⟨rfl, rfl, rfl, rfl, rfl, rfl, rfl, trivial⟩ fun ξ86 => ?_
 refine Wp_region ?_
 refine Rg_op rfl (op_loadA (cs := [(Value.int .i64 3), (Value.slice (some ⟨b1, 0, none⟩) [0, 1].length 2), (Value.slice (some ⟨b25, 0, none⟩) [[9, 2, (-1)], [4, 8, 30]].length 2)]) (vs := [(Value.int .i64 3), (Value.slice (some ⟨b1, 0, none⟩) [0, 1].length 2), (Value.slice (some ⟨b25, 0, none⟩) [[9, 2, (-1)], [4, 8, 30]].length 2)]) (i := 0) ty25 hs78 rfl rfl rfl rfl ?_)
 refine Rg_op rfl (op_buildSlice (cs := [(Value.int .i64 1), (Value.int .i64 2)]) (parts := [(0, .const (.int .i64 1)), (1, .const (.int .i64 2))]) ty22 ty3 hs78 (by decide) rfl ?_)
 intro b87 w88 hx91 p89 hs90
 replace f41 := f41.step p89; replace f44 := f44.step p89; replace f_y58 := f_y58.step p89; replace f_y71 := f_y71.step p89; replace f_y84 := f_y84.step p89; clear p89 hs78
 obtain ⟨hs94, p95, f93⟩ := St.publish (i := 0) (o := 0) (c := 2) (xs := [1, 2]) hs90 rfl (show Els (rInt .i64) _ _ [(Value.int .i64 1), (Value.int .i64 2)] [1, 2] from ⟨_, _, rfl, (mk_int (show InK .i64 1 from by decide)), ⟨_, _, rfl, (mk_int (show InK .i64 2 from by decide)), Els.nil⟩⟩) (le_lit rfl) (le_lit rfl) (le_lit rfl)
 replace f41 := f41.step p95; replace f44 := f44.step p95; replace f_y58 := f_y58.step p95; replace f_y71 := f_y71.step p95; replace f_y84 := f_y84.step p95; clear p95 hs90
 replace hm := bd hm; obtain ⟨cycles_2, hv96, hm⟩ := hm
 refine Rg_op rfl (op_call Try.call14 (c14_clearing_Cycles (r_ := (⟨3, [0, 1], [[9, 2, (-1)], [4, 8, 30]]⟩ : XRound)) (slots := [1, 2]) hs94.ltw (show InK .i64 3 from by decide) f41 f44 f93 hv96) rfl ?_)
 rintro v97 w98 ⟨hx99, h100⟩
 have hs101 := hs94.call hx99
 have p102 := Step.ext (O := ks [(some b33, Obj.cells [(Value.int .i64 3), (Value.slice (some ⟨b1, 0, none⟩) [0, 1].length 2), (Value.slice (some ⟨b25, 0, none⟩) [[9, 2, (-1)], [4, 8, 30]].length 2)].toArray 25)] O) hx99
 clear hx99
 replace f41 := f41.step p102; replace f44 := f44.step p102; replace f_y58 := f_y58.step p102; replace f_y71 := f_y71.step p102; replace f_y84 := f_y84.step p102; replace f93 := f93.step p102; clear p102 hs94
 obtain ⟨v103, v104, rfl, h105, h106⟩ := h100
 obtain ⟨a_y107, c_y107, rfl, f_y107⟩ := un_sl h105
 obtain ⟨rfl, r_y108⟩ := h106
 refine Rg_op rfl (op_move (v := (Value.tuple [(Value.slice a_y107 cycles_2.1.length c_y107), (Value.int .i64 cycles_2.2)].toArray)) rfl ?_)
 refine Rg_op rfl (op_extract (v := (Value.slice a_y107 cycles_2.1.length c_y107)) rfl rfl ?_)
 refine Rg_op rfl (op_extract (v := (Value.int .i64 cycles_2.2)) rfl rfl ?_)
 refine Rg_op rfl (op_assign (v := (Value.slice a_y107 cycles_2.1.length c_y107)) rfl ?_)
 refine Rg_op rfl (op_assign (v := (Value.int .i64 cycles_2.2)) rfl ?_)
 refine Rg_nil ?_
 refine Wp_seq ?_
 clear f93
 refine Wp_region ?_
 refine Rg_op rfl (op_loadA (cs := [(Value.int .i64 3), (Value.slice (some ⟨b1, 0, none⟩) [0, 1].length 2), (Value.slice (some ⟨b25, 0, none⟩) [[9, 2, (-1)], [4, 8, 30]].length 2)]) (vs := [(Value.int .i64 3), (Value.slice (some ⟨b1, 0, none⟩) [0, 1].length 2), (Value.slice (some ⟨b25, 0, none⟩) [[9, 2, (-1)], [4, 8, 30]].length 2)]) (i := 0) ty25 hs101 rfl rfl rfl rfl ?_)
 refine Rg_op rfl (op_buildSlice (cs := [(Value.int .i64 0), (Value.int .i64 1)]) (parts := [(0, .const (.int .i64 0)), (1, .const (.int .i64 1))]) ty22 ty3 hs101 (by decide) rfl ?_)
 intro b109 w110 hx113 p111 hs112
 replace f41 := f41.step p111; replace f44 := f44.step p111; replace f_y58 := f_y58.step p111; replace f_y71 := f_y71.step p111; replace f_y84 := f_y84.step p111; replace f_y107 := f_y107.step p111; clear p111 hs101
 obtain ⟨hs116, p117, f115⟩ := St.publish (i := 0) (o := 0) (c := 2) (xs := [0, 1]) hs112 rfl (show Els (rInt .i64) _ _ [(Value.int .i64 0), (Value.int .i64 1)] [0, 1] from ⟨_, _, rfl, (mk_int (show InK .i64 0 from by decide)), ⟨_, _, rfl, (mk_int (show InK .i64 1 from by decide)), Els.nil⟩⟩) (le_lit rfl) (le_lit rfl) (le_lit rfl)
 replace f41 := f41.step p117; replace f44 := f44.step p117; replace f_y58 := f_y58.step p117; replace f_y71 := f_y71.step p117; replace f_y84 := f_y84.step p117; replace f_y107 := f_y107.step p117; clear p117 hs112
 replace hm := bd hm; obtain ⟨cycles_3, hv118, hm⟩ := hm
 refine Rg_op rfl (op_call Try.call14 (c14_clearing_Cycles (r_ := (⟨3, [0, 1], [[9, 2, (-1)], [4, 8, 30]]⟩ : XRound)) (slots := [0, 1]) hs116.ltw (show InK .i64 3 from by decide) f41 f44 f115 hv118) rfl ?_)
 rintro v119 w120 ⟨hx121, h122⟩
 have hs123 := hs116.call hx121
 have p124 := Step.ext (O := ks [(some b33, Obj.cells [(Value.int .i64 3), (Value.slice (some ⟨b1, 0, none⟩) [0, 1].length 2), (Value.slice (some ⟨b25, 0, none⟩) [[9, 2, (-1)], [4, 8, 30]].length 2)].toArray 25)] O) hx121
 clear hx121
 replace f41 := f41.step p124; replace f44 := f44.step p124; replace f_y58 := f_y58.step p124; replace f_y71 := f_y71.step p124; replace f_y84 := f_y84.step p124; replace f_y107 := f_y107.step p124; replace f115 := f115.step p124; clear p124 hs116
 obtain ⟨v125, v126, rfl, h127, h128⟩ := h122
 obtain ⟨a_y129, c_y129, rfl, f_y129⟩ := un_sl h127
 obtain ⟨rfl, r_y130⟩ := h128
 refine Rg_op rfl (op_move (v := (Value.tuple [(Value.slice a_y129 cycles_3.1.length c_y129), (Value.int .i64 cycles_3.2)].toArray)) rfl ?_)
 refine Rg_op rfl (op_extract (v := (Value.slice a_y129 cycles_3.1.length c_y129)) rfl rfl ?_)
 refine Rg_op rfl (op_extract (v := (Value.int .i64 cycles_3.2)) rfl rfl ?_)
 refine Rg_op rfl (op_assign (v := (Value.slice a_y129 cycles_3.1.length c_y129)) rfl ?_)
 refine Rg_op rfl (op_assign (v := (Value.int .i64 cycles_3.2)) rfl ?_)
 refine Rg_nil ?_
 refine Wp_seq ?_
 clear f115
 refine Wp_region ?_
 refine Rg_op rfl (op_build (vs := [(Value.int .i64 1), (Value.slice none 0 0), (Value.slice none 0 0)]) (parts := [(0, .const (.int .i64 1))]) ty25 pl25 rfl ?_)
 replace hm := bd hm; obtain ⟨best_2, hv131, hm⟩ := hm
 refine Rg_op rfl (op_call Try.call18 (c18_clearing_Best (r_ := (⟨1, ([] : List Int), ([] : List (List Int))⟩ : XRound)) hs123.ltw (show InK .i64 1 from by decide) SlR.nil_ SlR.nil_ hv131) rfl ?_)
 rintro v132 w133 ⟨hx134, h135⟩
 have hs136 := hs123.call hx134
 have p137 := Step.ext (O := ks [(some b33, Obj.cells [(Value.int .i64 3), (Value.slice (some ⟨b1, 0, none⟩) [0, 1].length 2), (Value.slice (some ⟨b25, 0, none⟩) [[9, 2, (-1)], [4, 8, 30]].length 2)].toArray 25)] O) hx134
 clear hx134
 replace f41 := f41.step p137; replace f44 := f44.step p137; replace f_y58 := f_y58.step p137; replace f_y71 := f_y71.step p137; replace f_y84 := f_y84.step p137; replace f_y107 := f_y107.step p137; replace f_y129 := f_y129.step p137; clear p137 hs123
 obtain ⟨v138, v139, rfl, h140, h141⟩ := h135
 obtain ⟨a_y142, c_y142, rfl, f_y142⟩ := un_sl h140
 obtain ⟨rfl, r_y143⟩ := h141
 refine Rg_op rfl (op_move (v := (Value.tuple [(Value.slice a_y142 best_2.1.length c_y142), (Value.int .i64 best_2.2)].toArray)) rfl ?_)
 refine Rg_op rfl (op_extract (v := (Value.slice a_y142 best_2.1.length c_y142)) rfl rfl ?_)
 refine Rg_op rfl (op_extract (v := (Value.int .i64 best_2.2)) rfl rfl ?_)
 refine Rg_op rfl (op_assign (v := (Value.slice a_y142 best_2.1.length c_y142)) rfl ?_)
 refine Rg_op rfl (op_assign (v := (Value.int .i64 best_2.2)) rfl ?_)
 refine Rg_nil ?_
 refine Wp_seq ?_
 refine Wp_region ?_
 refine Rg_op rfl (op_build (vs := [(Value.int .i64 0), (Value.slice none 0 0), (Value.slice none 0 0)]) (parts := []) ty25 pl25 rfl ?_)
 replace hm := bd hm; obtain ⟨best_3, hv144, hm⟩ := hm
 refine Rg_op rfl (op_call Try.call18 (c18_clearing_Best (r_ := (⟨0, ([] : List Int), ([] : List (List Int))⟩ : XRound)) hs136.ltw (show InK .i64 0 from by decide) SlR.nil_ SlR.nil_ hv144) rfl ?_)
 rintro v145 w146 ⟨hx147, h148⟩
 have hs149 := hs136.call hx147
 have p150 := Step.ext (O := ks [(some b33, Obj.cells [(Value.int .i64 3), (Value.slice (some ⟨b1, 0, none⟩) [0, 1].length 2), (Value.slice (some ⟨b25, 0, none⟩) [[9, 2, (-1)], [4, 8, 30]].length 2)].toArray 25)] O) hx147
 clear hx147
 replace f41 := f41.step p150; replace f44 := f44.step p150; replace f_y58 := f_y58.step p150; replace f_y71 := f_y71.step p150; replace f_y84 := f_y84.step p150; replace f_y107 := f_y107.step p150; replace f_y129 := f_y129.step p150; replace f_y142 := f_y142.step p150; clear p150 hs136
 obtain ⟨v151, v152, rfl, h153, h154⟩ := h148
 obtain ⟨a_y155, c_y155, rfl, f_y155⟩ := un_sl h153
 obtain ⟨rfl, r_y156⟩ := h154
 refine Rg_op rfl (op_move (v := (Value.tuple [(Value.slice a_y155 best_3.1.length c_y155), (Value.int .i64 best_3.2)].toArray)) rfl ?_)
 refine Rg_op rfl (op_extract (v := (Value.slice a_y155 best_3.1.length c_y155)) rfl rfl ?_)
 refine Rg_op rfl (op_extract (v := (Value.int .i64 best_3.2)) rfl rfl ?_)
 refine Rg_op rfl (op_assign (v := (Value.slice a_y155 best_3.1.length c_y155)) rfl ?_)
 refine Rg_op rfl (op_assign (v := (Value.int .i64 best_3.2)) rfl ?_)
 refine Rg_nil ?_
 refine Wp_seq ?_
 clear f_y155
 refine Wp_reset [] [(1, (Value.pointer (some ⟨b33, 0, none⟩))), (2, (Value.slice a_y58 best_1.1.length c_y58)), (3, (Value.int .i64 best_1.2)), (4, (Value.slice a_y71 value_1.1.length c_y71)), (5, (Value.int .i64 value_1.2)), (6, (Value.slice a_y84 cycles_1.1.length c_y84)), (7, (Value.int .i64 cycles_1.2)), (8, (Value.slice a_y107 cycles_2.1.length c_y107)), (9, (Value.int .i64 cycles_2.2)), (10, (Value.slice a_y129 cycles_3.1.length c_y129)), (11, (Value.int .i64 cycles_3.2)), (12, (Value.slice a_y142 best_2.1.length c_y142)), (13, (Value.int .i64 best_2.2)), (15, (Value.int .i64 best_3.2))] rfl ⟨rfl, rfl, rfl, rfl, rfl, rfl, rfl, rfl, rfl, rfl, rfl, rfl, rfl, rfl, trivial⟩ fun ξ157 => ?_
 refine Wp_region ?_
 refine Rg_op rfl (op_buildSlice (cs := [(Value.int .i64 0), (Value.int .i64 1)]) (parts := [(0, .const (.int .i64 0)), (1, .const (.int .i64 1))]) ty22 ty3 hs149 (by decide) rfl ?_)
 intro b158 w159 hx162 p160 hs161
 replace f41 := f41.step p160; replace f44 := f44.step p160; replace f_y58 := f_y58.step p160; replace f_y71 := f_y71.step p160; replace f_y84 := f_y84.step p160; replace f_y107 := f_y107.step p160; replace f_y129 := f_y129.step p160; replace f_y142 := f_y142.step p160; clear p160 hs149
 refine Rg_op rfl (op_buildSlice (cs := [(Value.int .i64 1), (Value.int .i64 2)]) (parts := [(0, .const (.int .i64 1)), (1, .const (.int .i64 2))]) ty22 ty3 hs161 (by decide) rfl ?_)
 intro b164 w165 hx168 p166 hs167
 replace f41 := f41.step p166; replace f44 := f44.step p166; replace f_y58 := f_y58.step p166; replace f_y71 := f_y71.step p166; replace f_y84 := f_y84.step p166; replace f_y107 := f_y107.step p166; replace f_y129 := f_y129.step p166; replace f_y142 := f_y142.step p166; clear p166 hs161
 refine Rg_op rfl (op_buildSlice (cs := [(Value.int .i64 2), (Value.int .i64 1)]) (parts := [(0, .const (.int .i64 2)), (1, .const (.int .i64 1))]) ty22 ty3 hs167 (by decide) rfl ?_)
 intro b170 w171 hx174 p172 hs173
 replace f41 := f41.step p172; replace f44 := f44.step p172; replace f_y58 := f_y58.step p172; replace f_y71 := f_y71.step p172; replace f_y84 := f_y84.step p172; replace f_y107 := f_y107.step p172; replace f_y129 := f_y129.step p172; replace f_y142 := f_y142.step p172; clear p172 hs167
 obtain ⟨hs177, p178, f176⟩ := St.publish (i := 1) (o := 0) (c := 2) (xs := [1, 2]) hs173 rfl (show Els (rInt .i64) _ _ [(Value.int .i64 1), (Value.int .i64 2)] [1, 2] from ⟨_, _, rfl, (mk_int (show InK .i64 1 from by decide)), ⟨_, _, rfl, (mk_int (show InK .i64 2 from by decide)), Els.nil⟩⟩) (le_lit rfl) (le_lit rfl) (le_lit rfl)
 replace f41 := f41.step p178; replace f44 := f44.step p178; replace f_y58 := f_y58.step p178; replace f_y71 := f_y71.step p178; replace f_y84 := f_y84.step p178; replace f_y107 := f_y107.step p178; replace f_y129 := f_y129.step p178; replace f_y142 := f_y142.step p178; clear p178 hs173
 obtain ⟨hs180, p181, f179⟩ := St.publish (i := 0) (o := 0) (c := 2) (xs := [2, 1]) hs177 rfl (show Els (rInt .i64) _ _ [(Value.int .i64 2), (Value.int .i64 1)] [2, 1] from ⟨_, _, rfl, (mk_int (show InK .i64 2 from by decide)), ⟨_, _, rfl, (mk_int (show InK .i64 1 from by decide)), Els.nil⟩⟩) (le_lit rfl) (le_lit rfl) (le_lit rfl)
 replace f41 := f41.step p181; replace f44 := f44.step p181; replace f_y58 := f_y58.step p181; replace f_y71 := f_y71.step p181; replace f_y84 := f_y84.step p181; replace f_y107 := f_y107.step p181; replace f_y129 := f_y129.step p181; replace f_y142 := f_y142.step p181; replace f176 := f176.step p181; clear p181 hs177
 refine Rg_op rfl (op_buildSlice (cs := [(Value.slice (some ⟨b164, 0, none⟩) [1, 2].length 2), (Value.slice (some ⟨b170, 0, none⟩) [2, 1].length 2)]) (parts := [(0, .tmp 64), (1, .tmp 65)]) ty23 ty22 hs180 (by decide) rfl ?_)
 intro b182 w183 hx186 p184 hs185
 replace f41 := f41.step p184; replace f44 := f44.step p184; replace f_y58 := f_y58.step p184; replace f_y71 := f_y71.step p184; replace f_y84 := f_y84.step p184; replace f_y107 := f_y107.step p184; replace f_y129 := f_y129.step p184; replace f_y142 := f_y142.step p184; replace f176 := f176.step p184; replace f179 := f179.step p184; clear p184 hs180
 have f188 := Gs.of_cells (p := (rInt .i64)) (e := 3) (bl := b158) (c := 2) (w := w183) (O := ks [(some b182, Obj.cells [(Value.slice (some ⟨b164, 0, none⟩) [1, 2].length 2), (Value.slice (some ⟨b170, 0, none⟩) [2, 1].length 2)].toArray 22), (some b158, Obj.cells [(Value.int .i64 0), (Value.int .i64 1)].toArray 3), (some b33, Obj.cells [(Value.int .i64 3), (Value.slice (some ⟨b1, 0, none⟩) [0, 1].length 2), (Value.slice (some ⟨b25, 0, none⟩) [[9, 2, (-1)], [4, 8, 30]].length 2)].toArray 25)] O) (show Els (rInt .i64) _ _ [(Value.int .i64 0), (Value.int .i64 1)] [0, 1] from ⟨_, _, rfl, (mk_int (show InK .i64 0 from by decide)), ⟨_, _, rfl, (mk_int (show InK .i64 1 from by decide)), Els.nil⟩⟩) rfl (le_lit rfl)
 have f189 := Gs.of_cells (p := (rSl (rInt .i64))) (e := 22) (bl := b182) (c := 2) (w := w183) (O := ks [(some b182, Obj.cells [(Value.slice (some ⟨b164, 0, none⟩) [1, 2].length 2), (Value.slice (some ⟨b170, 0, none⟩) [2, 1].length 2)].toArray 22), (some b158, (Obj.cells [(Value.int .i64 0), (Value.int .i64 1)].toArray 3)), (some b33, Obj.cells [(Value.int .i64 3), (Value.slice (some ⟨b1, 0, none⟩) [0, 1].length 2), (Value.slice (some ⟨b25, 0, none⟩) [[9, 2, (-1)], [4, 8, 30]].length 2)].toArray 25)] O) (show Els (rSl (rInt .i64)) _ _ [(Value.slice (some ⟨b164, 0, none⟩) [1, 2].length 2), (Value.slice (some ⟨b170, 0, none⟩) [2, 1].length 2)] [[1, 2], [2, 1]] from ⟨_, _, rfl, (mk_sl f176), ⟨_, _, rfl, (mk_sl f179), Els.nil⟩⟩) rfl (le_lit rfl)
 refine Rg_op rfl (op_build (vs := [(Value.int .i64 2), (Value.slice (some ⟨b158, 0, none⟩) [0, 1].length 2), (Value.slice (some ⟨b182, 0, none⟩) [[1, 2], [2, 1]].length 2)]) (parts := [(0, .const (.int .i64 2)), (1, .tmp 63), (2, .tmp 66)]) ty25 pl25 rfl ?_)
 refine Rg_op rfl (op_alloc ty25 hs185 ?_)
 intro b190 w191 _ p192 hs193
 replace f41 := f41.step p192; replace f44 := f44.step p192; replace f_y58 := f_y58.step p192; replace f_y71 := f_y71.step p192; replace f_y84 := f_y84.step p192; replace f_y107 := f_y107.step p192; replace f_y129 := f_y129.step p192; replace f_y142 := f_y142.step p192; replace f176 := f176.step p192; replace f179 := f179.step p192; replace f188 := f188.step p192; replace f189 := f189.step p192; clear p192 hs185
 refine Rg_op_ (op_store (cs := [(Value.int .i64 0), (Value.slice none 0 0), (Value.slice none 0 0)]) (vs := [(Value.int .i64 2), (Value.slice (some ⟨b158, 0, none⟩) [0, 1].length 2), (Value.slice (some ⟨b182, 0, none⟩) [[1, 2], [2, 1]].length 2)]) (cs' := [(Value.int .i64 2), (Value.slice (some ⟨b158, 0, none⟩) [0, 1].length 2), (Value.slice (some ⟨b182, 0, none⟩) [[1, 2], [2, 1]].length 2)]) (bs' := [(some b190, Obj.cells [(Value.int .i64 2), (Value.slice (some ⟨b158, 0, none⟩) [0, 1].length 2), (Value.slice (some ⟨b182, 0, none⟩) [[1, 2], [2, 1]].length 2)].toArray 25), (some b182, (Obj.cells [(Value.slice (some ⟨b164, 0, none⟩) [1, 2].length 2), (Value.slice (some ⟨b170, 0, none⟩) [2, 1].length 2)].toArray 22)), (some b158, (Obj.cells [(Value.int .i64 0), (Value.int .i64 1)].toArray 3)), (some b33, Obj.cells [(Value.int .i64 3), (Value.slice (some ⟨b1, 0, none⟩) [0, 1].length 2), (Value.slice (some ⟨b25, 0, none⟩) [[9, 2, (-1)], [4, 8, 30]].length 2)].toArray 25)]) (i := 0) ty25 hs193 rfl rfl rfl rfl rfl (le_lit rfl) rfl rfl rfl ?_)
 intro w195 p196 hs197
 replace f41 := f41.step p196; replace f44 := f44.step p196; replace f_y58 := f_y58.step p196; replace f_y71 := f_y71.step p196; replace f_y84 := f_y84.step p196; replace f_y107 := f_y107.step p196; replace f_y129 := f_y129.step p196; replace f_y142 := f_y142.step p196; replace f176 := f176.step p196; replace f179 := f179.step p196; replace f188 := f188.step p196; replace f189 := f189.step p196; clear p196 hs193
 refine Rg_nil ?_
 refine Wp_seq ?_
 clear f176 f179
 refine Wp_region ?_
 refine Rg_op rfl (op_loadA (cs := [(Value.int .i64 2), (Value.slice (some ⟨b158, 0, none⟩) [0, 1].length 2), (Value.slice (some ⟨b182, 0, none⟩) [[1, 2], [2, 1]].length 2)]) (vs := [(Value.int .i64 2), (Value.slice (some ⟨b158, 0, none⟩) [0, 1].length 2), (Value.slice (some ⟨b182, 0, none⟩) [[1, 2], [2, 1]].length 2)]) (i := 0) ty25 hs197 rfl rfl rfl rfl ?_)
 obtain ⟨hs199, p200, f198⟩ := Gs.publish (i := 2) hs197 rfl f188
 replace f41 := f41.step p200; replace f44 := f44.step p200; replace f_y58 := f_y58.step p200; replace f_y71 := f_y71.step p200; replace f_y84 := f_y84.step p200; replace f_y107 := f_y107.step p200; replace f_y129 := f_y129.step p200; replace f_y142 := f_y142.step p200; replace f189 := f189.step p200; clear p200 hs197
 obtain ⟨hs202, p203, f201⟩ := Gs.publish (i := 1) hs199 rfl f189
 replace f41 := f41.step p203; replace f44 := f44.step p203; replace f_y58 := f_y58.step p203; replace f_y71 := f_y71.step p203; replace f_y84 := f_y84.step p203; replace f_y107 := f_y107.step p203; replace f_y129 := f_y129.step p203; replace f_y142 := f_y142.step p203; replace f198 := f198.step p203; clear p203 hs199
 replace hm := bd hm; obtain ⟨best_4, hv204, hm⟩ := hm
 refine Rg_op rfl (op_call Try.call18 (c18_clearing_Best (r_ := (⟨2, [0, 1], [[1, 2], [2, 1]]⟩ : XRound)) hs202.ltw (show InK .i64 2 from by decide) f198 f201 hv204) rfl ?_)
 rintro v205 w206 ⟨hx207, h208⟩
 have hs209 := hs202.call hx207
 have p210 := Step.ext (O := ks [(some b190, Obj.cells [(Value.int .i64 2), (Value.slice (some ⟨b158, 0, none⟩) [0, 1].length 2), (Value.slice (some ⟨b182, 0, none⟩) [[1, 2], [2, 1]].length 2)].toArray 25), (some b33, Obj.cells [(Value.int .i64 3), (Value.slice (some ⟨b1, 0, none⟩) [0, 1].length 2), (Value.slice (some ⟨b25, 0, none⟩) [[9, 2, (-1)], [4, 8, 30]].length 2)].toArray 25)] O) hx207
 clear hx207
 replace f41 := f41.step p210; replace f44 := f44.step p210; replace f_y58 := f_y58.step p210; replace f_y71 := f_y71.step p210; replace f_y84 := f_y84.step p210; replace f_y107 := f_y107.step p210; replace f_y129 := f_y129.step p210; replace f_y142 := f_y142.step p210; replace f198 := f198.step p210; replace f201 := f201.step p210; clear p210 hs202
 obtain ⟨v211, v212, rfl, h213, h214⟩ := h208
 obtain ⟨a_y215, c_y215, rfl, f_y215⟩ := un_sl h213
 obtain ⟨rfl, r_y216⟩ := h214
 refine Rg_op rfl (op_move (v := (Value.tuple [(Value.slice a_y215 best_4.1.length c_y215), (Value.int .i64 best_4.2)].toArray)) rfl ?_)
 refine Rg_op rfl (op_extract (v := (Value.slice a_y215 best_4.1.length c_y215)) rfl rfl ?_)
 refine Rg_op rfl (op_extract (v := (Value.int .i64 best_4.2)) rfl rfl ?_)
 refine Rg_op rfl (op_assign (v := (Value.slice a_y215 best_4.1.length c_y215)) rfl ?_)
 refine Rg_op rfl (op_assign (v := (Value.int .i64 best_4.2)) rfl ?_)
 refine Rg_nil ?_
 refine Wp_reset [] [(1, (Value.pointer (some ⟨b33, 0, none⟩))), (2, (Value.slice a_y58 best_1.1.length c_y58)), (3, (Value.int .i64 best_1.2)), (4, (Value.slice a_y71 value_1.1.length c_y71)), (5, (Value.int .i64 value_1.2)), (6, (Value.slice a_y84 cycles_1.1.length c_y84)), (7, (Value.int .i64 cycles_1.2)), (8, (Value.slice a_y107 cycles_2.1.length c_y107)), (9, (Value.int .i64 cycles_2.2)), (10, (Value.slice a_y129 cycles_3.1.length c_y129)), (11, (Value.int .i64 cycles_3.2)), (12, (Value.slice a_y142 best_2.1.length c_y142)), (13, (Value.int .i64 best_2.2)), (15, (Value.int .i64 best_3.2)), (17, (Value.slice a_y215 best_4.1.length c_y215)), (18, (Value.int .i64 best_4.2))] rfl ⟨rfl, rfl, rfl, rfl, rfl, rfl, rfl, rfl, rfl, rfl, rfl, rfl, rfl, rfl, rfl, rfl, trivial⟩ fun ξ217 => ?_
 replace hm := jn_elim hm; obtain ⟨k219, hk220, hm⟩ := hm
 refine Wp_seqJ [0, 73, 74, 75, 76, 77, 78, 79, 80, 81, 82, 83, 84, 85, 86, 87, 88, 89, 90, 91, 92, 93, 94, 95, 96, 97, 98, 99, 100, 101, 102, 103, 104, 105, 106, 107, 108, 109, 110, 111, 112, 113, 114, 115, 116, 117, 118, 119, 120, 121, 122, 123, 124, 125, 126, 127, 128, 129, 130, 131, 132, 133, 134, 135, 136, 137, 138, 139, 140, 141, 142, 143, 144, 145, 146, 147, 148, 149, 150, 151, 152, 153, 154, 155, 156, 157] (fun fr w' => ∃ (v_1 : Bool) (Ebs : Ents), Ebs = [(some b190, Obj.cells [(Value.int .i64 2), (Value.slice (some ⟨b158, 0, none⟩) [0, 1].length 2), (Value.slice (some ⟨b182, 0, none⟩) [[1, 2], [2, 1]].length 2)].toArray 25), (some b33, Obj.cells [(Value.int .i64 3), (Value.slice (some ⟨b1, 0, none⟩) [0, 1].length 2), (Value.slice (some ⟨b25, 0, none⟩) [[9, 2, (-1)], [4, 8, 30]].length 2)].toArray 25)] ∧ fr [] [(0, (Value.bool v_1))] ∧ Step (ks [(some b190, Obj.cells [(Value.int .i64 2), (Value.slice (some ⟨b158, 0, none⟩) [0, 1].length 2), (Value.slice (some ⟨b182, 0, none⟩) [[1, 2], [2, 1]].length 2)].toArray 25), (some b33, Obj.cells [(Value.int .i64 3), (Value.slice (some ⟨b1, 0, none⟩) [0, 1].length 2), (Value.slice (some ⟨b25, 0, none⟩) [[9, 2, (-1)], [4, 8, 30]].length 2)].toArray 25)] O) w206 (ks Ebs O) w' ∧ St ⟨w, [], []⟩ O w' Ebs ∧ k219 v_1 = some x) ?_ ?_
 ·
  rintro ρ226 w222 ⟨v_1, Ebs, hEbs, hfr225, hst224, hs223, hm⟩
  replace hm := jnE1 hk220 hm
  subst hEbs; rw [hfr225.eq]; clear hfr225
  replace f41 := f41.step hst224; replace f44 := f44.step hst224; replace f_y58 := f_y58.step hst224; replace f_y71 := f_y71.step hst224; replace f_y84 := f_y84.step hst224; replace f_y107 := f_y107.step hst224; replace f_y129 := f_y129.step hst224; replace f_y142 := f_y142.step hst224; replace f198 := f198.step hst224; replace f201 := f201.step hst224; replace f_y215 := f_y215.step hst224; clear hst224 hs209
  refine Wp_ret ?_
  have hz := step_all hs223
  replace f41 := f41.step hz; replace f44 := f44.step hz; replace f_y58 := f_y58.step hz; replace f_y71 := f_y71.step hz; replace f_y84 := f_y84.step hz; replace f_y107 := f_y107.step hz; replace f_y129 := f_y129.step hz; replace f_y142 := f_y142.step hz; replace f198 := f198.step hz; replace f201 := f201.step hz; replace f_y215 := f_y215.step hz
  refine ⟨_, (show Closes [] _ _ from rfl), [(Value.bool v_1)], ⟨rfl, trivial⟩, hs223.ext, ?_⟩
  exact Vr.eq (a := vB) (x := v_1) rfl (Option.some.inj hm)
 ·
  intro K221 hK221
  have ch227 := Step.refl (ks [(some b190, Obj.cells [(Value.int .i64 2), (Value.slice (some ⟨b158, 0, none⟩) [0, 1].length 2), (Value.slice (some ⟨b182, 0, none⟩) [[1, 2], [2, 1]].length 2)].toArray 25), (some b33, Obj.cells [(Value.int .i64 3), (Value.slice (some ⟨b1, 0, none⟩) [0, 1].length 2), (Value.slice (some ⟨b25, 0, none⟩) [[9, 2, (-1)], [4, 8, 30]].length 2)].toArray 25)] O) w206
  refine Wp_region ?_
  refine Rg_op rfl (op_move (v := (Value.int .i64 best_1.2)) rfl ?_)
  refine Rg_op rfl (op_eql rfl rfl ?_)
  refine Rg_op rfl (op_move (v := (Value.bool (decide (best_1.2 = 0)))) rfl ?_)
  refine Rg_case (fun hg228 => ?_) (fun hg228 => ?_)
  ·
   replace hm := bif_t hm hg228
   refine Rg_opg rfl rfl rfl (op_move (v := (Value.slice a_y58 best_1.1.length c_y58)) rfl ?_)
   refine Rg_opg rfl rfl rfl (op_buildSlice (cs := [(Value.int .i64 1), (Value.int .i64 0)]) (parts := [(0, .const (.int .i64 1)), (1, .const (.int .i64 0))]) ty22 ty3 hs209 (by decide) rfl ?_)
   intro b229 w230 hx233 p231 hs232
   replace f41 := f41.step p231; replace f44 := f44.step p231; replace f_y58 := f_y58.step p231; replace f_y71 := f_y71.step p231; replace f_y84 := f_y84.step p231; replace f_y107 := f_y107.step p231; replace f_y129 := f_y129.step p231; replace f_y142 := f_y142.step p231; replace f198 := f198.step p231; replace f201 := f201.step p231; replace f_y215 := f_y215.step p231; replace ch227 := ch227.trans p231; clear p231 hs209
   obtain ⟨hs236, p237, f235⟩ := St.publish (i := 0) (o := 0) (c := 2) (xs := [1, 0]) hs232 rfl (show Els (rInt .i64) _ _ [(Value.int .i64 1), (Value.int .i64 0)] [1, 0] from ⟨_, _, rfl, (mk_int (show InK .i64 1 from by decide)), ⟨_, _, rfl, (mk_int (show InK .i64 0 from by decide)), Els.nil⟩⟩) (le_lit rfl) (le_lit rfl) (le_lit rfl)
   replace f41 := f41.step p237; replace f44 := f44.step p237; replace f_y58 := f_y58.step p237; replace f_y71 := f_y71.step p237; replace f_y84 := f_y84.step p237; replace f_y107 := f_y107.step p237; replace f_y129 := f_y129.step p237; replace f_y142 := f_y142.step p237; replace f198 := f198.step p237; replace f201 := f201.step p237; replace f_y215 := f_y215.step p237; replace ch227 := ch227.trans p237; clear p237 hs232
   replace hm := bd hm; obtain ⟨sameints_1, hv238, hm⟩ := hm
   refine Rg_opg rfl rfl rfl (op_call Try.call16 (c16_overflightref37_SameInts (a := best_1.1) (b := [1, 0]) hs236.ltw f_y58 f235 hv238) rfl ?_)
   rintro v239 w240 ⟨hx241, h242⟩
   have hs243 := hs236.call hx241
   have p244 := Step.ext (O := ks [(some b190, Obj.cells [(Value.int .i64 2), (Value.slice (some ⟨b158, 0, none⟩) [0, 1].length 2), (Value.slice (some ⟨b182, 0, none⟩) [[1, 2], [2, 1]].length 2)].toArray 25), (some b33, Obj.cells [(Value.int .i64 3), (Value.slice (some ⟨b1, 0, none⟩) [0, 1].length 2), (Value.slice (some ⟨b25, 0, none⟩) [[9, 2, (-1)], [4, 8, 30]].length 2)].toArray 25)] O) hx241
   clear hx241
   replace f41 := f41.step p244; replace f44 := f44.step p244; replace f_y58 := f_y58.step p244; replace f_y71 := f_y71.step p244; replace f_y84 := f_y84.step p244; replace f_y107 := f_y107.step p244; replace f_y129 := f_y129.step p244; replace f_y142 := f_y142.step p244; replace f198 := f198.step p244; replace f201 := f201.step p244; replace f_y215 := f_y215.step p244; replace f235 := f235.step p244; replace ch227 := ch227.trans p244; clear p244 hs236
   obtain rfl := h242
   refine Rg_op rfl (op_pick_t (v := (Value.bool sameints_1)) rfl rfl ?_)
   refine Rg_op rfl (op_move (v := (Value.bool sameints_1)) rfl ?_)
   refine Rg_case (fun hg246 => ?_) (fun hg246 => ?_)
   ·
    replace hm := bif_t hm hg246
    refine Rg_opg rfl rfl rfl (op_move (v := (Value.int .i64 value_1.2)) rfl ?_)
    refine Rg_opg rfl rfl rfl (op_eql rfl rfl ?_)
    refine Rg_op rfl (op_pick_t (v := (Value.bool (decide (value_1.2 = 0)))) rfl rfl ?_)
    refine Rg_op rfl (op_move (v := (Value.bool (decide (value_1.2 = 0)))) rfl ?_)
    refine Rg_case (fun hg247 => ?_) (fun hg247 => ?_)
    ·
     replace hm := bif_t hm hg247
     refine Rg_opg rfl rfl rfl (op_move (v := (Value.slice a_y71 value_1.1.length c_y71)) rfl ?_)
     refine Rg_opg rfl rfl rfl (op_buildSlice (cs := [(Value.int .i64 6), (Value.int .i64 2)]) (parts := [(0, .const (.int .i64 6)), (1, .const (.int .i64 2))]) ty22 ty3 hs243 (by decide) rfl ?_)
     intro b248 w249 hx252 p250 hs251
     replace f41 := f41.step p250; replace f44 := f44.step p250; replace f_y58 := f_y58.step p250; replace f_y71 := f_y71.step p250; replace f_y84 := f_y84.step p250; replace f_y107 := f_y107.step p250; replace f_y129 := f_y129.step p250; replace f_y142 := f_y142.step p250; replace f198 := f198.step p250; replace f201 := f201.step p250; replace f_y215 := f_y215.step p250; replace f235 := f235.step p250; replace ch227 := ch227.trans p250; clear p250 hs243
     obtain ⟨hs255, p256, f254⟩ := St.publish (i := 0) (o := 0) (c := 2) (xs := [6, 2]) hs251 rfl (show Els (rInt .i64) _ _ [(Value.int .i64 6), (Value.int .i64 2)] [6, 2] from ⟨_, _, rfl, (mk_int (show InK .i64 6 from by decide)), ⟨_, _, rfl, (mk_int (show InK .i64 2 from by decide)), Els.nil⟩⟩) (le_lit rfl) (le_lit rfl) (le_lit rfl)
     replace f41 := f41.step p256; replace f44 := f44.step p256; replace f_y58 := f_y58.step p256; replace f_y71 := f_y71.step p256; replace f_y84 := f_y84.step p256; replace f_y107 := f_y107.step p256; replace f_y129 := f_y129.step p256; replace f_y142 := f_y142.step p256; replace f198 := f198.step p256; replace f201 := f201.step p256; replace f_y215 := f_y215.step p256; replace f235 := f235.step p256; replace ch227 := ch227.trans p256; clear p256 hs251
     replace hm := bd hm; obtain ⟨sameints_2, hv257, hm⟩ := hm
     refine Rg_opg rfl rfl rfl (op_call Try.call16 (c16_overflightref37_SameInts (a := value_1.1) (b := [6, 2]) hs255.ltw f_y71 f254 hv257) rfl ?_)
     rintro v258 w259 ⟨hx260, h261⟩
     have hs262 := hs255.call hx260
     have p263 := Step.ext (O := ks [(some b190, Obj.cells [(Value.int .i64 2), (Value.slice (some ⟨b158, 0, none⟩) [0, 1].length 2), (Value.slice (some ⟨b182, 0, none⟩) [[1, 2], [2, 1]].length 2)].toArray 25), (some b33, Obj.cells [(Value.int .i64 3), (Value.slice (some ⟨b1, 0, none⟩) [0, 1].length 2), (Value.slice (some ⟨b25, 0, none⟩) [[9, 2, (-1)], [4, 8, 30]].length 2)].toArray 25)] O) hx260
     clear hx260
     replace f41 := f41.step p263; replace f44 := f44.step p263; replace f_y58 := f_y58.step p263; replace f_y71 := f_y71.step p263; replace f_y84 := f_y84.step p263; replace f_y107 := f_y107.step p263; replace f_y129 := f_y129.step p263; replace f_y142 := f_y142.step p263; replace f198 := f198.step p263; replace f201 := f201.step p263; replace f_y215 := f_y215.step p263; replace f235 := f235.step p263; replace f254 := f254.step p263; replace ch227 := ch227.trans p263; clear p263 hs255
     obtain rfl := h261
     refine Rg_op rfl (op_pick_t (v := (Value.bool sameints_2)) rfl rfl ?_)
     refine Rg_op rfl (op_move (v := (Value.bool sameints_2)) rfl ?_)
     refine Rg_case (fun hg265 => ?_) (fun hg265 => ?_)
     ·
      replace hm := bif_t hm hg265
      refine Rg_opg rfl rfl rfl (op_move (v := (Value.int .i64 cycles_1.2)) rfl ?_)
      refine Rg_opg rfl rfl rfl (op_eql rfl rfl ?_)
      refine Rg_op rfl (op_pick_t (v := (Value.bool (decide (cycles_1.2 = 0)))) rfl rfl ?_)
      refine Rg_op rfl (op_move (v := (Value.bool (decide (cycles_1.2 = 0)))) rfl ?_)
      refine Rg_case (fun hg266 => ?_) (fun hg266 => ?_)
      ·
       replace hm := bif_t hm hg266
       refine Rg_opg rfl rfl rfl (op_move (v := (Value.slice a_y84 cycles_1.1.length c_y84)) rfl ?_)
       refine Rg_opg rfl rfl rfl (op_buildSlice (cs := [(Value.int .i64 0), (Value.int .i64 1)]) (parts := [(0, .const (.int .i64 0)), (1, .const (.int .i64 1))]) ty22 ty3 hs262 (by decide) rfl ?_)
       intro b267 w268 hx271 p269 hs270
       replace f41 := f41.step p269; replace f44 := f44.step p269; replace f_y58 := f_y58.step p269; replace f_y71 := f_y71.step p269; replace f_y84 := f_y84.step p269; replace f_y107 := f_y107.step p269; replace f_y129 := f_y129.step p269; replace f_y142 := f_y142.step p269; replace f198 := f198.step p269; replace f201 := f201.step p269; replace f_y215 := f_y215.step p269; replace f235 := f235.step p269; replace f254 := f254.step p269; replace ch227 := ch227.trans p269; clear p269 hs262
       obtain ⟨hs274, p275, f273⟩ := St.publish (i := 0) (o := 0) (c := 2) (xs := [0, 1]) hs270 rfl (show Els (rInt .i64) _ _ [(Value.int .i64 0), (Value.int .i64 1)] [0, 1] from ⟨_, _, rfl, (mk_int (show InK .i64 0 from by decide)), ⟨_, _, rfl, (mk_int (show InK .i64 1 from by decide)), Els.nil⟩⟩) (le_lit rfl) (le_lit rfl) (le_lit rfl)
       replace f41 := f41.step p275; replace f44 := f44.step p275; replace f_y58 := f_y58.step p275; replace f_y71 := f_y71.step p275; replace f_y84 := f_y84.step p275; replace f_y107 := f_y107.step p275; replace f_y129 := f_y129.step p275; replace f_y142 := f_y142.step p275; replace f198 := f198.step p275; replace f201 := f201.step p275; replace f_y215 := f_y215.step p275; replace f235 := f235.step p275; replace f254 := f254.step p275; replace ch227 := ch227.trans p275; clear p275 hs270
       refine Rg_opg rfl rfl rfl (op_buildSlice (cs := [(Value.slice (some ⟨b267, 0, none⟩) [0, 1].length 2)]) (parts := [(0, .tmp 95)]) ty23 ty22 hs274 (by decide) rfl ?_)
       intro b276 w277 hx280 p278 hs279
       replace f41 := f41.step p278; replace f44 := f44.step p278; replace f_y58 := f_y58.step p278; replace f_y71 := f_y71.step p278; replace f_y84 := f_y84.step p278; replace f_y107 := f_y107.step p278; replace f_y129 := f_y129.step p278; replace f_y142 := f_y142.step p278; replace f198 := f198.step p278; replace f201 := f201.step p278; replace f_y215 := f_y215.step p278; replace f235 := f235.step p278; replace f254 := f254.step p278; replace f273 := f273.step p278; replace ch227 := ch227.trans p278; clear p278 hs274
       obtain ⟨hs283, p284, f282⟩ := St.publish (i := 0) (o := 0) (c := 1) (xs := [[0, 1]]) hs279 rfl (show Els (rSl (rInt .i64)) _ _ [(Value.slice (some ⟨b267, 0, none⟩) [0, 1].length 2)] [[0, 1]] from ⟨_, _, rfl, (mk_sl f273), Els.nil⟩) (le_lit rfl) (le_lit rfl) (le_lit rfl)
       replace f41 := f41.step p284; replace f44 := f44.step p284; replace f_y58 := f_y58.step p284; replace f_y71 := f_y71.step p284; replace f_y84 := f_y84.step p284; replace f_y107 := f_y107.step p284; replace f_y129 := f_y129.step p284; replace f_y142 := f_y142.step p284; replace f198 := f198.step p284; replace f201 := f201.step p284; replace f_y215 := f_y215.step p284; replace f235 := f235.step p284; replace f254 := f254.step p284; replace f273 := f273.step p284; replace ch227 := ch227.trans p284; clear p284 hs279
       replace hm := bd hm; obtain ⟨samelists_1, hv285, hm⟩ := hm
       refine Rg_opg rfl rfl rfl (op_call Try.call17 (c17_overflightref38_SameLists (a := cycles_1.1) (b := [[0, 1]]) hs283.ltw f_y84 f282 hv285) rfl ?_)
       rintro v286 w287 ⟨hx288, h289⟩
       have hs290 := hs283.call hx288
       have p291 := Step.ext (O := ks [(some b190, Obj.cells [(Value.int .i64 2), (Value.slice (some ⟨b158, 0, none⟩) [0, 1].length 2), (Value.slice (some ⟨b182, 0, none⟩) [[1, 2], [2, 1]].length 2)].toArray 25), (some b33, Obj.cells [(Value.int .i64 3), (Value.slice (some ⟨b1, 0, none⟩) [0, 1].length 2), (Value.slice (some ⟨b25, 0, none⟩) [[9, 2, (-1)], [4, 8, 30]].length 2)].toArray 25)] O) hx288
       clear hx288
       replace f41 := f41.step p291; replace f44 := f44.step p291; replace f_y58 := f_y58.step p291; replace f_y71 := f_y71.step p291; replace f_y84 := f_y84.step p291; replace f_y107 := f_y107.step p291; replace f_y129 := f_y129.step p291; replace f_y142 := f_y142.step p291; replace f198 := f198.step p291; replace f201 := f201.step p291; replace f_y215 := f_y215.step p291; replace f235 := f235.step p291; replace f254 := f254.step p291; replace f273 := f273.step p291; replace f282 := f282.step p291; replace ch227 := ch227.trans p291; clear p291 hs283
       obtain rfl := h289
       refine Rg_op rfl (op_pick_t (v := (Value.bool samelists_1)) rfl rfl ?_)
       refine Rg_op rfl (op_move (v := (Value.bool samelists_1)) rfl ?_)
       refine Rg_case (fun hg293 => ?_) (fun hg293 => ?_)
       ·
        replace hm := bif_t hm hg293
        refine Rg_opg rfl rfl rfl (op_move (v := (Value.int .i64 cycles_2.2)) rfl ?_)
        refine Rg_opg rfl rfl rfl (op_eql rfl rfl ?_)
        refine Rg_op rfl (op_pick_t (v := (Value.bool (decide (cycles_2.2 = 0)))) rfl rfl ?_)
        refine Rg_op rfl (op_move (v := (Value.bool (decide (cycles_2.2 = 0)))) rfl ?_)
        refine Rg_case (fun hg294 => ?_) (fun hg294 => ?_)
        ·
         replace hm := bif_t hm hg294
         refine Rg_opg rfl rfl rfl (op_move (v := (Value.slice a_y107 cycles_2.1.length c_y107)) rfl ?_)
         refine Rg_opg rfl rfl rfl (op_buildSlice (cs := [(Value.int .i64 1), (Value.int .i64 0)]) (parts := [(0, .const (.int .i64 1)), (1, .const (.int .i64 0))]) ty22 ty3 hs290 (by decide) rfl ?_)
         intro b295 w296 hx299 p297 hs298
         replace f41 := f41.step p297; replace f44 := f44.step p297; replace f_y58 := f_y58.step p297; replace f_y71 := f_y71.step p297; replace f_y84 := f_y84.step p297; replace f_y107 := f_y107.step p297; replace f_y129 := f_y129.step p297; replace f_y142 := f_y142.step p297; replace f198 := f198.step p297; replace f201 := f201.step p297; replace f_y215 := f_y215.step p297; replace f235 := f235.step p297; replace f254 := f254.step p297; replace f273 := f273.step p297; replace f282 := f282.step p297; replace ch227 := ch227.trans p297; clear p297 hs290
         obtain ⟨hs302, p303, f301⟩ := St.publish (i := 0) (o := 0) (c := 2) (xs := [1, 0]) hs298 rfl (show Els (rInt .i64) _ _ [(Value.int .i64 1), (Value.int .i64 0)] [1, 0] from ⟨_, _, rfl, (mk_int (show InK .i64 1 from by decide)), ⟨_, _, rfl, (mk_int (show InK .i64 0 from by decide)), Els.nil⟩⟩) (le_lit rfl) (le_lit rfl) (le_lit rfl)
         replace f41 := f41.step p303; replace f44 := f44.step p303; replace f_y58 := f_y58.step p303; replace f_y71 := f_y71.step p303; replace f_y84 := f_y84.step p303; replace f_y107 := f_y107.step p303; replace f_y129 := f_y129.step p303; replace f_y142 := f_y142.step p303; replace f198 := f198.step p303; replace f201 := f201.step p303; replace f_y215 := f_y215.step p303; replace f235 := f235.step p303; replace f254 := f254.step p303; replace f273 := f273.step p303; replace f282 := f282.step p303; replace ch227 := ch227.trans p303; clear p303 hs298
         refine Rg_opg rfl rfl rfl (op_buildSlice (cs := [(Value.slice (some ⟨b295, 0, none⟩) [1, 0].length 2)]) (parts := [(0, .tmp 105)]) ty23 ty22 hs302 (by decide) rfl ?_)
         intro b304 w305 hx308 p306 hs307
         replace f41 := f41.step p306; replace f44 := f44.step p306; replace f_y58 := f_y58.step p306; replace f_y71 := f_y71.step p306; replace f_y84 := f_y84.step p306; replace f_y107 := f_y107.step p306; replace f_y129 := f_y129.step p306; replace f_y142 := f_y142.step p306; replace f198 := f198.step p306; replace f201 := f201.step p306; replace f_y215 := f_y215.step p306; replace f235 := f235.step p306; replace f254 := f254.step p306; replace f273 := f273.step p306; replace f282 := f282.step p306; replace f301 := f301.step p306; replace ch227 := ch227.trans p306; clear p306 hs302
         obtain ⟨hs311, p312, f310⟩ := St.publish (i := 0) (o := 0) (c := 1) (xs := [[1, 0]]) hs307 rfl (show Els (rSl (rInt .i64)) _ _ [(Value.slice (some ⟨b295, 0, none⟩) [1, 0].length 2)] [[1, 0]] from ⟨_, _, rfl, (mk_sl f301), Els.nil⟩) (le_lit rfl) (le_lit rfl) (le_lit rfl)
         replace f41 := f41.step p312; replace f44 := f44.step p312; replace f_y58 := f_y58.step p312; replace f_y71 := f_y71.step p312; replace f_y84 := f_y84.step p312; replace f_y107 := f_y107.step p312; replace f_y129 := f_y129.step p312; replace f_y142 := f_y142.step p312; replace f198 := f198.step p312; replace f201 := f201.step p312; replace f_y215 := f_y215.step p312; replace f235 := f235.step p312; replace f254 := f254.step p312; replace f273 := f273.step p312; replace f282 := f282.step p312; replace f301 := f301.step p312; replace ch227 := ch227.trans p312; clear p312 hs307
         replace hm := bd hm; obtain ⟨samelists_2, hv313, hm⟩ := hm
         refine Rg_opg rfl rfl rfl (op_call Try.call17 (c17_overflightref38_SameLists (a := cycles_2.1) (b := [[1, 0]]) hs311.ltw f_y107 f310 hv313) rfl ?_)
         rintro v314 w315 ⟨hx316, h317⟩
         have hs318 := hs311.call hx316
         have p319 := Step.ext (O := ks [(some b190, Obj.cells [(Value.int .i64 2), (Value.slice (some ⟨b158, 0, none⟩) [0, 1].length 2), (Value.slice (some ⟨b182, 0, none⟩) [[1, 2], [2, 1]].length 2)].toArray 25), (some b33, Obj.cells [(Value.int .i64 3), (Value.slice (some ⟨b1, 0, none⟩) [0, 1].length 2), (Value.slice (some ⟨b25, 0, none⟩) [[9, 2, (-1)], [4, 8, 30]].length 2)].toArray 25)] O) hx316
         clear hx316
         replace f41 := f41.step p319; replace f44 := f44.step p319; replace f_y58 := f_y58.step p319; replace f_y71 := f_y71.step p319; replace f_y84 := f_y84.step p319; replace f_y107 := f_y107.step p319; replace f_y129 := f_y129.step p319; replace f_y142 := f_y142.step p319; replace f198 := f198.step p319; replace f201 := f201.step p319; replace f_y215 := f_y215.step p319; replace f235 := f235.step p319; replace f254 := f254.step p319; replace f273 := f273.step p319; replace f282 := f282.step p319; replace f301 := f301.step p319; replace f310 := f310.step p319; replace ch227 := ch227.trans p319; clear p319 hs311
         obtain rfl := h317
         refine Rg_op rfl (op_pick_t (v := (Value.bool samelists_2)) rfl rfl ?_)
         refine Rg_op rfl (op_move (v := (Value.bool samelists_2)) rfl ?_)
         refine Rg_case (fun hg321 => ?_) (fun hg321 => ?_)
         ·
          replace hm := bif_t hm hg321
          refine Rg_opg rfl rfl rfl (op_move (v := (Value.int .i64 cycles_3.2)) rfl ?_)
          refine Rg_opg rfl rfl rfl (op_eql rfl rfl ?_)
          refine Rg_op rfl (op_pick_t (v := (Value.bool (decide (cycles_3.2 = 0)))) rfl rfl ?_)
          refine Rg_op rfl (op_move (v := (Value.bool (decide (cycles_3.2 = 0)))) rfl ?_)
          refine Rg_case (fun hg322 => ?_) (fun hg322 => ?_)
          ·
           replace hm := bif_t hm hg322
           refine Rg_opg rfl rfl rfl (op_move (v := (Value.slice a_y129 cycles_3.1.length c_y129)) rfl ?_)
           refine Rg_opg rfl rfl rfl (op_len Try.underlying23 rfl ?_)
           have rl323 := inK_len f_y129
           refine Rg_opg rfl rfl rfl (op_eql rfl rfl ?_)
           refine Rg_op rfl (op_pick_t (v := (Value.bool (decide ((cycles_3.1.length : Int) = 0)))) rfl rfl ?_)
           refine Rg_op rfl (op_move (v := (Value.bool (decide ((cycles_3.1.length : Int) = 0)))) rfl ?_)
           refine Rg_case (fun hg324 => ?_) (fun hg324 => ?_)
           ·
            replace hm := bif_t hm hg324
            refine Rg_opg rfl rfl rfl (op_move (v := (Value.int .i64 best_2.2)) rfl ?_)
            refine Rg_opg rfl rfl rfl (op_eql rfl rfl ?_)
            refine Rg_op rfl (op_pick_t (v := (Value.bool (decide (best_2.2 = 0)))) rfl rfl ?_)
            refine Rg_op rfl (op_move (v := (Value.bool (decide (best_2.2 = 0)))) rfl ?_)
            refine Rg_case (fun hg325 => ?_) (fun hg325 => ?_)
            ·
             replace hm := bif_t hm hg325
             refine Rg_opg rfl rfl rfl (op_move (v := (Value.slice a_y142 best_2.1.length c_y142)) rfl ?_)
             refine Rg_opg rfl rfl rfl (op_len Try.underlying22 rfl ?_)
             have rl326 := inK_len f_y142
             refine Rg_opg rfl rfl rfl (op_eql rfl rfl ?_)
             refine Rg_op rfl (op_pick_t (v := (Value.bool (decide ((best_2.1.length : Int) = 0)))) rfl rfl ?_)
             refine Rg_op rfl (op_move (v := (Value.bool (decide ((best_2.1.length : Int) = 0)))) rfl ?_)
             refine Rg_case (fun hg327 => ?_) (fun hg327 => ?_)
             ·
              replace hm := bif_t hm hg327
              refine Rg_opg rfl rfl rfl (op_move (v := (Value.int .i64 best_3.2)) rfl ?_)
              refine Rg_opg rfl rfl rfl (op_eql rfl rfl ?_)
              refine Rg_op rfl (op_pick_t (v := (Value.bool (decide (best_3.2 = 370)))) rfl rfl ?_)
              refine Rg_op rfl (op_move (v := (Value.bool (decide (best_3.2 = 370)))) rfl ?_)
              refine Rg_case (fun hg328 => ?_) (fun hg328 => ?_)
              ·
               replace hm := bif_t hm hg328
               refine Rg_opg rfl rfl rfl (op_move (v := (Value.int .i64 best_4.2)) rfl ?_)
               refine Rg_opg rfl rfl rfl (op_eql rfl rfl ?_)
               refine Rg_op rfl (op_pick_t (v := (Value.bool (decide (best_4.2 = 0)))) rfl rfl ?_)
               refine Rg_op rfl (op_move (v := (Value.bool (decide (best_4.2 = 0)))) rfl ?_)
               refine Rg_case (fun hg329 => ?_) (fun hg329 => ?_)
               ·
                replace hm := bif_t hm hg329
                refine Rg_opg rfl rfl rfl (op_move (v := (Value.slice a_y215 best_4.1.length c_y215)) rfl ?_)
                refine Rg_opg rfl rfl rfl (op_buildSlice (cs := [(Value.int .i64 0), (Value.int .i64 1)]) (parts := [(0, .const (.int .i64 0)), (1, .const (.int .i64 1))]) ty22 ty3 hs318 (by decide) rfl ?_)
                intro b330 w331 hx334 p332 hs333
                replace f41 := f41.step p332; replace f44 := f44.step p332; replace f_y58 := f_y58.step p332; replace f_y71 := f_y71.step p332; replace f_y84 := f_y84.step p332; replace f_y107 := f_y107.step p332; replace f_y129 := f_y129.step p332; replace f_y142 := f_y142.step p332; replace f198 := f198.step p332; replace f201 := f201.step p332; replace f_y215 := f_y215.step p332; replace f235 := f235.step p332; replace f254 := f254.step p332; replace f273 := f273.step p332; replace f282 := f282.step p332; replace f301 := f301.step p332; replace f310 := f310.step p332; replace ch227 := ch227.trans p332; clear p332 hs318
                obtain ⟨hs337, p338, f336⟩ := St.publish (i := 0) (o := 0) (c := 2) (xs := [0, 1]) hs333 rfl (show Els (rInt .i64) _ _ [(Value.int .i64 0), (Value.int .i64 1)] [0, 1] from ⟨_, _, rfl, (mk_int (show InK .i64 0 from by decide)), ⟨_, _, rfl, (mk_int (show InK .i64 1 from by decide)), Els.nil⟩⟩) (le_lit rfl) (le_lit rfl) (le_lit rfl)
                replace f41 := f41.step p338; replace f44 := f44.step p338; replace f_y58 := f_y58.step p338; replace f_y71 := f_y71.step p338; replace f_y84 := f_y84.step p338; replace f_y107 := f_y107.step p338; replace f_y129 := f_y129.step p338; replace f_y142 := f_y142.step p338; replace f198 := f198.step p338; replace f201 := f201.step p338; replace f_y215 := f_y215.step p338; replace f235 := f235.step p338; replace f254 := f254.step p338; replace f273 := f273.step p338; replace f282 := f282.step p338; replace f301 := f301.step p338; replace f310 := f310.step p338; replace ch227 := ch227.trans p338; clear p338 hs333
                replace hm := bd hm; obtain ⟨sameints_3, hv339, hm⟩ := hm
                refine Rg_opg rfl rfl rfl (op_call Try.call16 (c16_overflightref37_SameInts (a := best_4.1) (b := [0, 1]) hs337.ltw f_y215 f336 hv339) rfl ?_)
                rintro v340 w341 ⟨hx342, h343⟩
                have hs344 := hs337.call hx342
                have p345 := Step.ext (O := ks [(some b190, Obj.cells [(Value.int .i64 2), (Value.slice (some ⟨b158, 0, none⟩) [0, 1].length 2), (Value.slice (some ⟨b182, 0, none⟩) [[1, 2], [2, 1]].length 2)].toArray 25), (some b33, Obj.cells [(Value.int .i64 3), (Value.slice (some ⟨b1, 0, none⟩) [0, 1].length 2), (Value.slice (some ⟨b25, 0, none⟩) [[9, 2, (-1)], [4, 8, 30]].length 2)].toArray 25)] O) hx342
                clear hx342
                replace f41 := f41.step p345; replace f44 := f44.step p345; replace f_y58 := f_y58.step p345; replace f_y71 := f_y71.step p345; replace f_y84 := f_y84.step p345; replace f_y107 := f_y107.step p345; replace f_y129 := f_y129.step p345; replace f_y142 := f_y142.step p345; replace f198 := f198.step p345; replace f201 := f201.step p345; replace f_y215 := f_y215.step p345; replace f235 := f235.step p345; replace f254 := f254.step p345; replace f273 := f273.step p345; replace f282 := f282.step p345; replace f301 := f301.step p345; replace f310 := f310.step p345; replace f336 := f336.step p345; replace ch227 := ch227.trans p345; clear p345 hs337
                obtain rfl := h343
                refine Rg_op rfl (op_pick_t (v := (Value.bool sameints_3)) rfl rfl ?_)
                refine Rg_op rfl (op_move (v := (Value.bool sameints_3)) rfl ?_)
                refine Rg_case (fun hg347 => ?_) (fun hg347 => ?_)
                ·
                 replace hm := bif_t hm hg347
                 refine Rg_opg rfl rfl rfl (op_loadA (cs := [(Value.int .i64 3), (Value.slice (some ⟨b1, 0, none⟩) [0, 1].length 2), (Value.slice (some ⟨b25, 0, none⟩) [[9, 2, (-1)], [4, 8, 30]].length 2)]) (vs := [(Value.int .i64 3), (Value.slice (some ⟨b1, 0, none⟩) [0, 1].length 2), (Value.slice (some ⟨b25, 0, none⟩) [[9, 2, (-1)], [4, 8, 30]].length 2)]) (i := 1) ty25 hs344 rfl rfl rfl rfl ?_)
                 refine Rg_opg rfl rfl rfl (op_move (v := (Value.slice a_y58 best_1.1.length c_y58)) rfl ?_)
                 replace hm := bd hm; obtain ⟨verify_1, hv348, hm⟩ := hm
                 refine Rg_opg rfl rfl rfl (op_call Try.call20 (c20_clearing_Verify (r_ := (⟨3, [0, 1], [[9, 2, (-1)], [4, 8, 30]]⟩ : XRound)) (slots := best_1.1) hs344.ltw (show InK .i64 3 from by decide) f41 f44 f_y58 hv348) rfl ?_)
                 rintro v349 w350 ⟨hx351, h352⟩
                 have hs353 := hs344.call hx351
                 have p354 := Step.ext (O := ks [(some b190, Obj.cells [(Value.int .i64 2), (Value.slice (some ⟨b158, 0, none⟩) [0, 1].length 2), (Value.slice (some ⟨b182, 0, none⟩) [[1, 2], [2, 1]].length 2)].toArray 25), (some b33, Obj.cells [(Value.int .i64 3), (Value.slice (some ⟨b1, 0, none⟩) [0, 1].length 2), (Value.slice (some ⟨b25, 0, none⟩) [[9, 2, (-1)], [4, 8, 30]].length 2)].toArray 25)] O) hx351
                 clear hx351
                 replace f41 := f41.step p354; replace f44 := f44.step p354; replace f_y58 := f_y58.step p354; replace f_y71 := f_y71.step p354; replace f_y84 := f_y84.step p354; replace f_y107 := f_y107.step p354; replace f_y129 := f_y129.step p354; replace f_y142 := f_y142.step p354; replace f198 := f198.step p354; replace f201 := f201.step p354; replace f_y215 := f_y215.step p354; replace f235 := f235.step p354; replace f254 := f254.step p354; replace f273 := f273.step p354; replace f282 := f282.step p354; replace f301 := f301.step p354; replace f310 := f310.step p354; replace f336 := f336.step p354; replace ch227 := ch227.trans p354; clear p354 hs344
                 obtain ⟨rfl, r_y355⟩ := h352
                 refine Rg_opg rfl rfl rfl (op_eql rfl rfl ?_)
                 refine Rg_op rfl (op_pick_t (v := (Value.bool (decide (verify_1 = 0)))) rfl rfl ?_)
                 refine Rg_op rfl (op_move (v := (Value.bool (decide (verify_1 = 0)))) rfl ?_)
                 refine Rg_case (fun hg356 => ?_) (fun hg356 => ?_)
                 ·
                  replace hm := bif_t hm hg356
                  refine Rg_opg rfl rfl rfl (op_loadA (cs := [(Value.int .i64 3), (Value.slice (some ⟨b1, 0, none⟩) [0, 1].length 2), (Value.slice (some ⟨b25, 0, none⟩) [[9, 2, (-1)], [4, 8, 30]].length 2)]) (vs := [(Value.int .i64 3), (Value.slice (some ⟨b1, 0, none⟩) [0, 1].length 2), (Value.slice (some ⟨b25, 0, none⟩) [[9, 2, (-1)], [4, 8, 30]].length 2)]) (i := 1) ty25 hs353 rfl rfl rfl rfl ?_)
                  refine Rg_opg rfl rfl rfl (op_buildSlice (cs := [(Value.int .i64 0), (Value.int .i64 1)]) (parts := [(0, .const (.int .i64 0)), (1, .const (.int .i64 1))]) ty22 ty3 hs353 (by decide) rfl ?_)
                  intro b357 w358 hx361 p359 hs360
                  replace f41 := f41.step p359; replace f44 := f44.step p359; replace f_y58 := f_y58.step p359; replace f_y71 := f_y71.step p359; replace f_y84 := f_y84.step p359; replace f_y107 := f_y107.step p359; replace f_y129 := f_y129.step p359; replace f_y142 := f_y142.step p359; replace f198 := f198.step p359; replace f201 := f201.step p359; replace f_y215 := f_y215.step p359; replace f235 := f235.step p359; replace f254 := f254.step p359; replace f273 := f273.step p359; replace f282 := f282.step p359; replace f301 := f301.step p359; replace f310 := f310.step p359; replace f336 := f336.step p359; replace ch227 := ch227.trans p359; clear p359 hs353
                  obtain ⟨hs364, p365, f363⟩ := St.publish (i := 0) (o := 0) (c := 2) (xs := [0, 1]) hs360 rfl (show Els (rInt .i64) _ _ [(Value.int .i64 0), (Value.int .i64 1)] [0, 1] from ⟨_, _, rfl, (mk_int (show InK .i64 0 from by decide)), ⟨_, _, rfl, (mk_int (show InK .i64 1 from by decide)), Els.nil⟩⟩) (le_lit rfl) (le_lit rfl) (le_lit rfl)
                  replace f41 := f41.step p365; replace f44 := f44.step p365; replace f_y58 := f_y58.step p365; replace f_y71 := f_y71.step p365; replace f_y84 := f_y84.step p365; replace f_y107 := f_y107.step p365; replace f_y129 := f_y129.step p365; replace f_y142 := f_y142.step p365; replace f198 := f198.step p365; replace f201 := f201.step p365; replace f_y215 := f_y215.step p365; replace f235 := f235.step p365; replace f254 := f254.step p365; replace f273 := f273.step p365; replace f282 := f282.step p365; replace f301 := f301.step p365; replace f310 := f310.step p365; replace f336 := f336.step p365; replace ch227 := ch227.trans p365; clear p365 hs360
                  replace hm := bd hm; obtain ⟨verify_2, hv366, hm⟩ := hm
                  refine Rg_opg rfl rfl rfl (op_call Try.call20 (c20_clearing_Verify (r_ := (⟨3, [0, 1], [[9, 2, (-1)], [4, 8, 30]]⟩ : XRound)) (slots := [0, 1]) hs364.ltw (show InK .i64 3 from by decide) f41 f44 f363 hv366) rfl ?_)
                  rintro v367 w368 ⟨hx369, h370⟩
                  have hs371 := hs364.call hx369
                  have p372 := Step.ext (O := ks [(some b190, Obj.cells [(Value.int .i64 2), (Value.slice (some ⟨b158, 0, none⟩) [0, 1].length 2), (Value.slice (some ⟨b182, 0, none⟩) [[1, 2], [2, 1]].length 2)].toArray 25), (some b33, Obj.cells [(Value.int .i64 3), (Value.slice (some ⟨b1, 0, none⟩) [0, 1].length 2), (Value.slice (some ⟨b25, 0, none⟩) [[9, 2, (-1)], [4, 8, 30]].length 2)].toArray 25)] O) hx369
                  clear hx369
                  replace f41 := f41.step p372; replace f44 := f44.step p372; replace f_y58 := f_y58.step p372; replace f_y71 := f_y71.step p372; replace f_y84 := f_y84.step p372; replace f_y107 := f_y107.step p372; replace f_y129 := f_y129.step p372; replace f_y142 := f_y142.step p372; replace f198 := f198.step p372; replace f201 := f201.step p372; replace f_y215 := f_y215.step p372; replace f235 := f235.step p372; replace f254 := f254.step p372; replace f273 := f273.step p372; replace f282 := f282.step p372; replace f301 := f301.step p372; replace f310 := f310.step p372; replace f336 := f336.step p372; replace f363 := f363.step p372; replace ch227 := ch227.trans p372; clear p372 hs364
                  obtain ⟨rfl, r_y373⟩ := h370
                  refine Rg_opg rfl rfl rfl (op_eql rfl rfl ?_)
                  refine Rg_op rfl (op_pick_t (v := (Value.bool (decide (verify_2 = 380)))) rfl rfl ?_)
                  refine Rg_op rfl (op_move (v := (Value.bool (decide (verify_2 = 380)))) rfl ?_)
                  refine Rg_case (fun hg374 => ?_) (fun hg374 => ?_)
                  ·
                   replace hm := bif_t hm hg374
                   refine Rg_opg rfl rfl rfl (op_loadA (cs := [(Value.int .i64 3), (Value.slice (some ⟨b1, 0, none⟩) [0, 1].length 2), (Value.slice (some ⟨b25, 0, none⟩) [[9, 2, (-1)], [4, 8, 30]].length 2)]) (vs := [(Value.int .i64 3), (Value.slice (some ⟨b1, 0, none⟩) [0, 1].length 2), (Value.slice (some ⟨b25, 0, none⟩) [[9, 2, (-1)], [4, 8, 30]].length 2)]) (i := 1) ty25 hs371 rfl rfl rfl rfl ?_)
                   refine Rg_opg rfl rfl rfl (op_buildSlice (cs := [(Value.int .i64 1), (Value.int .i64 2)]) (parts := [(0, .const (.int .i64 1)), (1, .const (.int .i64 2))]) ty22 ty3 hs371 (by decide) rfl ?_)
                   intro b375 w376 hx379 p377 hs378
                   replace f41 := f41.step p377; replace f44 := f44.step p377; replace f_y58 := f_y58.step p377; replace f_y71 := f_y71.step p377; replace f_y84 := f_y84.step p377; replace f_y107 := f_y107.step p377; replace f_y129 := f_y129.step p377; replace f_y142 := f_y142.step p377; replace f198 := f198.step p377; replace f201 := f201.step p377; replace f_y215 := f_y215.step p377; replace f235 := f235.step p377; replace f254 := f254.step p377; replace f273 := f273.step p377; replace f282 := f282.step p377; replace f301 := f301.step p377; replace f310 := f310.step p377; replace f336 := f336.step p377; replace f363 := f363.step p377; replace ch227 := ch227.trans p377; clear p377 hs371
                   obtain ⟨hs382, p383, f381⟩ := St.publish (i := 0) (o := 0) (c := 2) (xs := [1, 2]) hs378 rfl (show Els (rInt .i64) _ _ [(Value.int .i64 1), (Value.int .i64 2)] [1, 2] from ⟨_, _, rfl, (mk_int (show InK .i64 1 from by decide)), ⟨_, _, rfl, (mk_int (show InK .i64 2 from by decide)), Els.nil⟩⟩) (le_lit rfl) (le_lit rfl) (le_lit rfl)
                   replace f41 := f41.step p383; replace f44 := f44.step p383; replace f_y58 := f_y58.step p383; replace f_y71 := f_y71.step p383; replace f_y84 := f_y84.step p383; replace f_y107 := f_y107.step p383; replace f_y129 := f_y129.step p383; replace f_y142 := f_y142.step p383; replace f198 := f198.step p383; replace f201 := f201.step p383; replace f_y215 := f_y215.step p383; replace f235 := f235.step p383; replace f254 := f254.step p383; replace f273 := f273.step p383; replace f282 := f282.step p383; replace f301 := f301.step p383; replace f310 := f310.step p383; replace f336 := f336.step p383; replace f363 := f363.step p383; replace ch227 := ch227.trans p383; clear p383 hs378
                   replace hm := bd hm; obtain ⟨verify_3, hv384, hm⟩ := hm
                   refine Rg_opg rfl rfl rfl (op_call Try.call20 (c20_clearing_Verify (r_ := (⟨3, [0, 1], [[9, 2, (-1)], [4, 8, 30]]⟩ : XRound)) (slots := [1, 2]) hs382.ltw (show InK .i64 3 from by decide) f41 f44 f381 hv384) rfl ?_)
                   rintro v385 w386 ⟨hx387, h388⟩
                   have hs389 := hs382.call hx387
                   have p390 := Step.ext (O := ks [(some b190, Obj.cells [(Value.int .i64 2), (Value.slice (some ⟨b158, 0, none⟩) [0, 1].length 2), (Value.slice (some ⟨b182, 0, none⟩) [[1, 2], [2, 1]].length 2)].toArray 25), (some b33, Obj.cells [(Value.int .i64 3), (Value.slice (some ⟨b1, 0, none⟩) [0, 1].length 2), (Value.slice (some ⟨b25, 0, none⟩) [[9, 2, (-1)], [4, 8, 30]].length 2)].toArray 25)] O) hx387
                   clear hx387
                   replace f41 := f41.step p390; replace f44 := f44.step p390; replace f_y58 := f_y58.step p390; replace f_y71 := f_y71.step p390; replace f_y84 := f_y84.step p390; replace f_y107 := f_y107.step p390; replace f_y129 := f_y129.step p390; replace f_y142 := f_y142.step p390; replace f198 := f198.step p390; replace f201 := f201.step p390; replace f_y215 := f_y215.step p390; replace f235 := f235.step p390; replace f254 := f254.step p390; replace f273 := f273.step p390; replace f282 := f282.step p390; replace f301 := f301.step p390; replace f310 := f310.step p390; replace f336 := f336.step p390; replace f363 := f363.step p390; replace f381 := f381.step p390; replace ch227 := ch227.trans p390; clear p390 hs382
                   obtain ⟨rfl, r_y391⟩ := h388
                   refine Rg_opg rfl rfl rfl (op_eql rfl rfl ?_)
                   refine Rg_op rfl (op_pick_t (v := (Value.bool (decide (verify_3 = 380)))) rfl rfl ?_)
                   refine Rg_op rfl (op_assign (v := (Value.bool (decide (verify_3 = 380)))) rfl ?_)
                   refine Rg_nil ?_
                   exact hK221 _ _ ⟨(decide (verify_3 = 380)), _, rfl, ⟨(by repeat (first | with_reducible exact Out.refl _ _ | refine Out.upd ?_ rfl | refine Out.updL ?_ rfl | refine Out.mix' ?_ rfl | exact Out.refl _ _)), rfl, rfl, trivial⟩, ch227, hs389, hm⟩
                  ·
                   replace hm := bif_f hm hg374
                   iterate 4 refine Rg_opx rfl (asB_ne rfl rfl) rfl ?_
                   refine Rg_op rfl (op_pick_f (v := (Value.bool false)) rfl rfl ?_)
                   refine Rg_op rfl (op_assign (v := (Value.bool false)) rfl ?_)
                   refine Rg_nil ?_
                   exact hK221 _ _ ⟨false, _, rfl, ⟨(by repeat (first | with_reducible exact Out.refl _ _ | refine Out.upd ?_ rfl | refine Out.updL ?_ rfl | refine Out.mix' ?_ rfl | exact Out.refl _ _)), rfl, rfl, trivial⟩, ch227, hs371, hm⟩
                 ·
                  replace hm := bif_f hm hg356
                  iterate 4 refine Rg_opx rfl (asB_ne rfl rfl) rfl ?_
                  refine Rg_op rfl (op_pick_f (v := (Value.bool false)) rfl rfl ?_)
                  refine Rg_op rfl (op_move (v := (Value.bool false)) rfl ?_)
                  iterate 4 refine Rg_opx rfl (asB_ne rfl rfl) rfl ?_
                  refine Rg_op rfl (op_pick_f (v := (Value.bool false)) rfl rfl ?_)
                  refine Rg_op rfl (op_assign (v := (Value.bool false)) rfl ?_)
                  refine Rg_nil ?_
                  exact hK221 _ _ ⟨false, _, rfl, ⟨(by repeat (first | with_reducible exact Out.refl _ _ | refine Out.upd ?_ rfl | refine Out.updL ?_ rfl | refine Out.mix' ?_ rfl | exact Out.refl _ _)), rfl, rfl, trivial⟩, ch227, hs353, hm⟩
                ·
                 replace hm := bif_f hm hg347
                 iterate 4 refine Rg_opx rfl (asB_ne rfl rfl) rfl ?_
                 refine Rg_op rfl (op_pick_f (v := (Value.bool false)) rfl rfl ?_)
                 refine Rg_op rfl (op_move (v := (Value.bool false)) rfl ?_)
                 iterate 4 refine Rg_opx rfl (asB_ne rfl rfl) rfl ?_
                 refine Rg_op rfl (op_pick_f (v := (Value.bool false)) rfl rfl ?_)
                 refine Rg_op rfl (op_move (v := (Value.bool false)) rfl ?_)
                 iterate 4 refine Rg_opx rfl (asB_ne rfl rfl) rfl ?_
                 refine Rg_op rfl (op_pick_f (v := (Value.bool false)) rfl rfl ?_)
                 refine Rg_op rfl (op_assign (v := (Value.bool false)) rfl ?_)
                 refine Rg_nil ?_
                 exact hK221 _ _ ⟨false, _, rfl, ⟨(by repeat (first | with_reducible exact Out.refl _ _ | refine Out.upd ?_ rfl | refine Out.updL ?_ rfl | refine Out.mix' ?_ rfl | exact Out.refl _ _)), rfl, rfl, trivial⟩, ch227, hs344, hm⟩
               ·
                replace hm := bif_f hm hg329
                iterate 3 refine Rg_opx rfl (asB_ne rfl rfl) rfl ?_
                refine Rg_op rfl (op_pick_f (v := (Value.bool false)) rfl rfl ?_)
                refine Rg_op rfl (op_move (v := (Value.bool false)) rfl ?_)
                iterate 4 refine Rg_opx rfl (asB_ne rfl rfl) rfl ?_
                refine Rg_op rfl (op_pick_f (v := (Value.bool false)) rfl rfl ?_)
                refine Rg_op rfl (op_move (v := (Value.bool false)) rfl ?_)
                iterate 4 refine Rg_opx rfl (asB_ne rfl rfl) rfl ?_
                refine Rg_op rfl (op_pick_f (v := (Value.bool false)) rfl rfl ?_)
                refine Rg_op rfl (op_move (v := (Value.bool false)) rfl ?_)
                iterate 4 refine Rg_opx rfl (asB_ne rfl rfl) rfl ?_
                refine Rg_op rfl (op_pick_f (v := (Value.bool false)) rfl rfl ?_)
                refine Rg_op rfl (op_assign (v := (Value.bool false)) rfl ?_)
                refine Rg_nil ?_
                exact hK221 _ _ ⟨false, _, rfl, ⟨(by repeat (first | with_reducible exact Out.refl _ _ | refine Out.upd ?_ rfl | refine Out.updL ?_ rfl | refine Out.mix' ?_ rfl | exact Out.refl _ _)), rfl, rfl, trivial⟩, ch227, hs318, hm⟩
              ·
               replace hm := bif_f hm hg328
               iterate 2 refine Rg_opx rfl (asB_ne rfl rfl) rfl ?_
               refine Rg_op rfl (op_pick_f (v := (Value.bool false)) rfl rfl ?_)
               refine Rg_op rfl (op_move (v := (Value.bool false)) rfl ?_)
               iterate 3 refine Rg_opx rfl (asB_ne rfl rfl) rfl ?_
               refine Rg_op rfl (op_pick_f (v := (Value.bool false)) rfl rfl ?_)
               refine Rg_op rfl (op_move (v := (Value.bool false)) rfl ?_)
               iterate 4 refine Rg_opx rfl (asB_ne rfl rfl) rfl ?_
               refine Rg_op rfl (op_pick_f (v := (Value.bool false)) rfl rfl ?_)
               refine Rg_op rfl (op_move (v := (Value.bool false)) rfl ?_)
               iterate 4 refine Rg_opx rfl (asB_ne rfl rfl) rfl ?_
               refine Rg_op rfl (op_pick_f (v := (Value.bool false)) rfl rfl ?_)
               refine Rg_op rfl (op_move (v := (Value.bool false)) rfl ?_)
               iterate 4 refine Rg_opx rfl (asB_ne rfl rfl) rfl ?_
               refine Rg_op rfl (op_pick_f (v := (Value.bool false)) rfl rfl ?_)
               refine Rg_op rfl (op_assign (v := (Value.bool false)) rfl ?_)
               refine Rg_nil ?_
               exact hK221 _ _ ⟨false, _, rfl, ⟨(by repeat (first | with_reducible exact Out.refl _ _ | refine Out.upd ?_ rfl | refine Out.updL ?_ rfl | refine Out.mix' ?_ rfl | exact Out.refl _ _)), rfl, rfl, trivial⟩, ch227, hs318, hm⟩
             ·
              replace hm := bif_f hm hg327
              iterate 2 refine Rg_opx rfl (asB_ne rfl rfl) rfl ?_
              refine Rg_op rfl (op_pick_f (v := (Value.bool false)) rfl rfl ?_)
              refine Rg_op rfl (op_move (v := (Value.bool false)) rfl ?_)
              iterate 2 refine Rg_opx rfl (asB_ne rfl rfl) rfl ?_
              refine Rg_op rfl (op_pick_f (v := (Value.bool false)) rfl rfl ?_)
              refine Rg_op rfl (op_move (v := (Value.bool false)) rfl ?_)
              iterate 3 refine Rg_opx rfl (asB_ne rfl rfl) rfl ?_
              refine Rg_op rfl (op_pick_f (v := (Value.bool false)) rfl rfl ?_)
              refine Rg_op rfl (op_move (v := (Value.bool false)) rfl ?_)
              iterate 4 refine Rg_opx rfl (asB_ne rfl rfl) rfl ?_
              refine Rg_op rfl (op_pick_f (v := (Value.bool false)) rfl rfl ?_)
              refine Rg_op rfl (op_move (v := (Value.bool false)) rfl ?_)
              iterate 4 refine Rg_opx rfl (asB_ne rfl rfl) rfl ?_
              refine Rg_op rfl (op_pick_f (v := (Value.bool false)) rfl rfl ?_)
              refine Rg_op rfl (op_move (v := (Value.bool false)) rfl ?_)
              iterate 4 refine Rg_opx rfl (asB_ne rfl rfl) rfl ?_
              refine Rg_op rfl (op_pick_f (v := (Value.bool false)) rfl rfl ?_)
              refine Rg_op rfl (op_assign (v := (Value.bool false)) rfl ?_)
              refine Rg_nil ?_
              exact hK221 _ _ ⟨false, _, rfl, ⟨(by repeat (first | with_reducible exact Out.refl _ _ | refine Out.upd ?_ rfl | refine Out.updL ?_ rfl | refine Out.mix' ?_ rfl | exact Out.refl _ _)), rfl, rfl, trivial⟩, ch227, hs318, hm⟩
            ·
             replace hm := bif_f hm hg325
             iterate 3 refine Rg_opx rfl (asB_ne rfl rfl) rfl ?_
             refine Rg_op rfl (op_pick_f (v := (Value.bool false)) rfl rfl ?_)
             refine Rg_op rfl (op_move (v := (Value.bool false)) rfl ?_)
             iterate 2 refine Rg_opx rfl (asB_ne rfl rfl) rfl ?_
             refine Rg_op rfl (op_pick_f (v := (Value.bool false)) rfl rfl ?_)
             refine Rg_op rfl (op_move (v := (Value.bool false)) rfl ?_)
             iterate 2 refine Rg_opx rfl (asB_ne rfl rfl) rfl ?_
             refine Rg_op rfl (op_pick_f (v := (Value.bool false)) rfl rfl ?_)
             refine Rg_op rfl (op_move (v := (Value.bool false)) rfl ?_)
             iterate 3 refine Rg_opx rfl (asB_ne rfl rfl) rfl ?_
             refine Rg_op rfl (op_pick_f (v := (Value.bool false)) rfl rfl ?_)
             refine Rg_op rfl (op_move (v := (Value.bool false)) rfl ?_)
             iterate 4 refine Rg_opx rfl (asB_ne rfl rfl) rfl ?_
             refine Rg_op rfl (op_pick_f (v := (Value.bool false)) rfl rfl ?_)
             refine Rg_op rfl (op_move (v := (Value.bool false)) rfl ?_)
             iterate 4 refine Rg_opx rfl (asB_ne rfl rfl) rfl ?_
             refine Rg_op rfl (op_pick_f (v := (Value.bool false)) rfl rfl ?_)
             refine Rg_op rfl (op_move (v := (Value.bool false)) rfl ?_)
             iterate 4 refine Rg_opx rfl (asB_ne rfl rfl) rfl ?_
             refine Rg_op rfl (op_pick_f (v := (Value.bool false)) rfl rfl ?_)
             refine Rg_op rfl (op_assign (v := (Value.bool false)) rfl ?_)
             refine Rg_nil ?_
             exact hK221 _ _ ⟨false, _, rfl, ⟨(by repeat (first | with_reducible exact Out.refl _ _ | refine Out.upd ?_ rfl | refine Out.updL ?_ rfl | refine Out.mix' ?_ rfl | exact Out.refl _ _)), rfl, rfl, trivial⟩, ch227, hs318, hm⟩
           ·
            replace hm := bif_f hm hg324
            iterate 2 refine Rg_opx rfl (asB_ne rfl rfl) rfl ?_
            refine Rg_op rfl (op_pick_f (v := (Value.bool false)) rfl rfl ?_)
            refine Rg_op rfl (op_move (v := (Value.bool false)) rfl ?_)
            iterate 3 refine Rg_opx rfl (asB_ne rfl rfl) rfl ?_
            refine Rg_op rfl (op_pick_f (v := (Value.bool false)) rfl rfl ?_)
            refine Rg_op rfl (op_move (v := (Value.bool false)) rfl ?_)
            iterate 2 refine Rg_opx rfl (asB_ne rfl rfl) rfl ?_
            refine Rg_op rfl (op_pick_f (v := (Value.bool false)) rfl rfl ?_)
            refine Rg_op rfl (op_move (v := (Value.bool false)) rfl ?_)
            iterate 2 refine Rg_opx rfl (asB_ne rfl rfl) rfl ?_
            refine Rg_op rfl (op_pick_f (v := (Value.bool false)) rfl rfl ?_)
            refine Rg_op rfl (op_move (v := (Value.bool false)) rfl ?_)
            iterate 3 refine Rg_opx rfl (asB_ne rfl rfl) rfl ?_
            refine Rg_op rfl (op_pick_f (v := (Value.bool false)) rfl rfl ?_)
            refine Rg_op rfl (op_move (v := (Value.bool false)) rfl ?_)
            iterate 4 refine Rg_opx rfl (asB_ne rfl rfl) rfl ?_
            refine Rg_op rfl (op_pick_f (v := (Value.bool false)) rfl rfl ?_)
            refine Rg_op rfl (op_move (v := (Value.bool false)) rfl ?_)
            iterate 4 refine Rg_opx rfl (asB_ne rfl rfl) rfl ?_
            refine Rg_op rfl (op_pick_f (v := (Value.bool false)) rfl rfl ?_)
            refine Rg_op rfl (op_move (v := (Value.bool false)) rfl ?_)
            iterate 4 refine Rg_opx rfl (asB_ne rfl rfl) rfl ?_
            refine Rg_op rfl (op_pick_f (v := (Value.bool false)) rfl rfl ?_)
            refine Rg_op rfl (op_assign (v := (Value.bool false)) rfl ?_)
            refine Rg_nil ?_
            exact hK221 _ _ ⟨false, _, rfl, ⟨(by repeat (first | with_reducible exact Out.refl _ _ | refine Out.upd ?_ rfl | refine Out.updL ?_ rfl | refine Out.mix' ?_ rfl | exact Out.refl _ _)), rfl, rfl, trivial⟩, ch227, hs318, hm⟩
          ·
           replace hm := bif_f hm hg322
           iterate 3 refine Rg_opx rfl (asB_ne rfl rfl) rfl ?_
           refine Rg_op rfl (op_pick_f (v := (Value.bool false)) rfl rfl ?_)
           refine Rg_op rfl (op_move (v := (Value.bool false)) rfl ?_)
           iterate 2 refine Rg_opx rfl (asB_ne rfl rfl) rfl ?_
           refine Rg_op rfl (op_pick_f (v := (Value.bool false)) rfl rfl ?_)
           refine Rg_op rfl (op_move (v := (Value.bool false)) rfl ?_)
           iterate 3 refine Rg_opx rfl (asB_ne rfl rfl) rfl ?_
           refine Rg_op rfl (op_pick_f (v := (Value.bool false)) rfl rfl ?_)
           refine Rg_op rfl (op_move (v := (Value.bool false)) rfl ?_)
           iterate 2 refine Rg_opx rfl (asB_ne rfl rfl) rfl ?_
           refine Rg_op rfl (op_pick_f (v := (Value.bool false)) rfl rfl ?_)
           refine Rg_op rfl (op_move (v := (Value.bool false)) rfl ?_)
           iterate 2 refine Rg_opx rfl (asB_ne rfl rfl) rfl ?_
           refine Rg_op rfl (op_pick_f (v := (Value.bool false)) rfl rfl ?_)
           refine Rg_op rfl (op_move (v := (Value.bool false)) rfl ?_)
           iterate 3 refine Rg_opx rfl (asB_ne rfl rfl) rfl ?_
           refine Rg_op rfl (op_pick_f (v := (Value.bool false)) rfl rfl ?_)
           refine Rg_op rfl (op_move (v := (Value.bool false)) rfl ?_)
           iterate 4 refine Rg_opx rfl (asB_ne rfl rfl) rfl ?_
           refine Rg_op rfl (op_pick_f (v := (Value.bool false)) rfl rfl ?_)
           refine Rg_op rfl (op_move (v := (Value.bool false)) rfl ?_)
           iterate 4 refine Rg_opx rfl (asB_ne rfl rfl) rfl ?_
           refine Rg_op rfl (op_pick_f (v := (Value.bool false)) rfl rfl ?_)
           refine Rg_op rfl (op_move (v := (Value.bool false)) rfl ?_)
           iterate 4 refine Rg_opx rfl (asB_ne rfl rfl) rfl ?_
           refine Rg_op rfl (op_pick_f (v := (Value.bool false)) rfl rfl ?_)
           refine Rg_op rfl (op_assign (v := (Value.bool false)) rfl ?_)
           refine Rg_nil ?_
           exact hK221 _ _ ⟨false, _, rfl, ⟨(by repeat (first | with_reducible exact Out.refl _ _ | refine Out.upd ?_ rfl | refine Out.updL ?_ rfl | refine Out.mix' ?_ rfl | exact Out.refl _ _)), rfl, rfl, trivial⟩, ch227, hs318, hm⟩
         ·
          replace hm := bif_f hm hg321
          iterate 2 refine Rg_opx rfl (asB_ne rfl rfl) rfl ?_
          refine Rg_op rfl (op_pick_f (v := (Value.bool false)) rfl rfl ?_)
          refine Rg_op rfl (op_move (v := (Value.bool false)) rfl ?_)
          iterate 3 refine Rg_opx rfl (asB_ne rfl rfl) rfl ?_
          refine Rg_op rfl (op_pick_f (v := (Value.bool false)) rfl rfl ?_)
          refine Rg_op rfl (op_move (v := (Value.bool false)) rfl ?_)
          iterate 2 refine Rg_opx rfl (asB_ne rfl rfl) rfl ?_
          refine Rg_op rfl (op_pick_f (v := (Value.bool false)) rfl rfl ?_)
          refine Rg_op rfl (op_move (v := (Value.bool false)) rfl ?_)
          iterate 3 refine Rg_opx rfl (asB_ne rfl rfl) rfl ?_
          refine Rg_op rfl (op_pick_f (v := (Value.bool false)) rfl rfl ?_)
          refine Rg_op rfl (op_move (v := (Value.bool false)) rfl ?_)
          iterate 2 refine Rg_opx rfl (asB_ne rfl rfl) rfl ?_
          refine Rg_op rfl (op_pick_f (v := (Value.bool false)) rfl rfl ?_)
          refine Rg_op rfl (op_move (v := (Value.bool false)) rfl ?_)
          iterate 2 refine Rg_opx rfl (asB_ne rfl rfl) rfl ?_
          refine Rg_op rfl (op_pick_f (v := (Value.bool false)) rfl rfl ?_)
          refine Rg_op rfl (op_move (v := (Value.bool false)) rfl ?_)
          iterate 3 refine Rg_opx rfl (asB_ne rfl rfl) rfl ?_
          refine Rg_op rfl (op_pick_f (v := (Value.bool false)) rfl rfl ?_)
          refine Rg_op rfl (op_move (v := (Value.bool false)) rfl ?_)
          iterate 4 refine Rg_opx rfl (asB_ne rfl rfl) rfl ?_
          refine Rg_op rfl (op_pick_f (v := (Value.bool false)) rfl rfl ?_)
          refine Rg_op rfl (op_move (v := (Value.bool false)) rfl ?_)
          iterate 4 refine Rg_opx rfl (asB_ne rfl rfl) rfl ?_
          refine Rg_op rfl (op_pick_f (v := (Value.bool false)) rfl rfl ?_)
          refine Rg_op rfl (op_move (v := (Value.bool false)) rfl ?_)
          iterate 4 refine Rg_opx rfl (asB_ne rfl rfl) rfl ?_
          refine Rg_op rfl (op_pick_f (v := (Value.bool false)) rfl rfl ?_)
          refine Rg_op rfl (op_assign (v := (Value.bool false)) rfl ?_)
          refine Rg_nil ?_
          exact hK221 _ _ ⟨false, _, rfl, ⟨(by repeat (first | with_reducible exact Out.refl _ _ | refine Out.upd ?_ rfl | refine Out.updL ?_ rfl | refine Out.mix' ?_ rfl | exact Out.refl _ _)), rfl, rfl, trivial⟩, ch227, hs318, hm⟩
        ·
         replace hm := bif_f hm hg294
         iterate 4 refine Rg_opx rfl (asB_ne rfl rfl) rfl ?_
         refine Rg_op rfl (op_pick_f (v := (Value.bool false)) rfl rfl ?_)
         refine Rg_op rfl (op_move (v := (Value.bool false)) rfl ?_)
         iterate 2 refine Rg_opx rfl (asB_ne rfl rfl) rfl ?_
         refine Rg_op rfl (op_pick_f (v := (Value.bool false)) rfl rfl ?_)
         refine Rg_op rfl (op_move (v := (Value.bool false)) rfl ?_)
         iterate 3 refine Rg_opx rfl (asB_ne rfl rfl) rfl ?_
         refine Rg_op rfl (op_pick_f (v := (Value.bool false)) rfl rfl ?_)
         refine Rg_op rfl (op_move (v := (Value.bool false)) rfl ?_)
         iterate 2 refine Rg_opx rfl (asB_ne rfl rfl) rfl ?_
         refine Rg_op rfl (op_pick_f (v := (Value.bool false)) rfl rfl ?_)
         refine Rg_op rfl (op_move (v := (Value.bool false)) rfl ?_)
         iterate 3 refine Rg_opx rfl (asB_ne rfl rfl) rfl ?_
         refine Rg_op rfl (op_pick_f (v := (Value.bool false)) rfl rfl ?_)
         refine Rg_op rfl (op_move (v := (Value.bool false)) rfl ?_)
         iterate 2 refine Rg_opx rfl (asB_ne rfl rfl) rfl ?_
         refine Rg_op rfl (op_pick_f (v := (Value.bool false)) rfl rfl ?_)
         refine Rg_op rfl (op_move (v := (Value.bool false)) rfl ?_)
         iterate 2 refine Rg_opx rfl (asB_ne rfl rfl) rfl ?_
         refine Rg_op rfl (op_pick_f (v := (Value.bool false)) rfl rfl ?_)
         refine Rg_op rfl (op_move (v := (Value.bool false)) rfl ?_)
         iterate 3 refine Rg_opx rfl (asB_ne rfl rfl) rfl ?_
         refine Rg_op rfl (op_pick_f (v := (Value.bool false)) rfl rfl ?_)
         refine Rg_op rfl (op_move (v := (Value.bool false)) rfl ?_)
         iterate 4 refine Rg_opx rfl (asB_ne rfl rfl) rfl ?_
         refine Rg_op rfl (op_pick_f (v := (Value.bool false)) rfl rfl ?_)
         refine Rg_op rfl (op_move (v := (Value.bool false)) rfl ?_)
         iterate 4 refine Rg_opx rfl (asB_ne rfl rfl) rfl ?_
         refine Rg_op rfl (op_pick_f (v := (Value.bool false)) rfl rfl ?_)
         refine Rg_op rfl (op_move (v := (Value.bool false)) rfl ?_)
         iterate 4 refine Rg_opx rfl (asB_ne rfl rfl) rfl ?_
         refine Rg_op rfl (op_pick_f (v := (Value.bool false)) rfl rfl ?_)
         refine Rg_op rfl (op_assign (v := (Value.bool false)) rfl ?_)
         refine Rg_nil ?_
         exact hK221 _ _ ⟨false, _, rfl, ⟨(by repeat (first | with_reducible exact Out.refl _ _ | refine Out.upd ?_ rfl | refine Out.updL ?_ rfl | refine Out.mix' ?_ rfl | exact Out.refl _ _)), rfl, rfl, trivial⟩, ch227, hs290, hm⟩
       ·
        replace hm := bif_f hm hg293
        iterate 2 refine Rg_opx rfl (asB_ne rfl rfl) rfl ?_
        refine Rg_op rfl (op_pick_f (v := (Value.bool false)) rfl rfl ?_)
        refine Rg_op rfl (op_move (v := (Value.bool false)) rfl ?_)
        iterate 4 refine Rg_opx rfl (asB_ne rfl rfl) rfl ?_
        refine Rg_op rfl (op_pick_f (v := (Value.bool false)) rfl rfl ?_)
        refine Rg_op rfl (op_move (v := (Value.bool false)) rfl ?_)
        iterate 2 refine Rg_opx rfl (asB_ne rfl rfl) rfl ?_
        refine Rg_op rfl (op_pick_f (v := (Value.bool false)) rfl rfl ?_)
        refine Rg_op rfl (op_move (v := (Value.bool false)) rfl ?_)
        iterate 3 refine Rg_opx rfl (asB_ne rfl rfl) rfl ?_
        refine Rg_op rfl (op_pick_f (v := (Value.bool false)) rfl rfl ?_)
        refine Rg_op rfl (op_move (v := (Value.bool false)) rfl ?_)
        iterate 2 refine Rg_opx rfl (asB_ne rfl rfl) rfl ?_
        refine Rg_op rfl (op_pick_f (v := (Value.bool false)) rfl rfl ?_)
        refine Rg_op rfl (op_move (v := (Value.bool false)) rfl ?_)
        iterate 3 refine Rg_opx rfl (asB_ne rfl rfl) rfl ?_
        refine Rg_op rfl (op_pick_f (v := (Value.bool false)) rfl rfl ?_)
        refine Rg_op rfl (op_move (v := (Value.bool false)) rfl ?_)
        iterate 2 refine Rg_opx rfl (asB_ne rfl rfl) rfl ?_
        refine Rg_op rfl (op_pick_f (v := (Value.bool false)) rfl rfl ?_)
        refine Rg_op rfl (op_move (v := (Value.bool false)) rfl ?_)
        iterate 2 refine Rg_opx rfl (asB_ne rfl rfl) rfl ?_
        refine Rg_op rfl (op_pick_f (v := (Value.bool false)) rfl rfl ?_)
        refine Rg_op rfl (op_move (v := (Value.bool false)) rfl ?_)
        iterate 3 refine Rg_opx rfl (asB_ne rfl rfl) rfl ?_
        refine Rg_op rfl (op_pick_f (v := (Value.bool false)) rfl rfl ?_)
        refine Rg_op rfl (op_move (v := (Value.bool false)) rfl ?_)
        iterate 4 refine Rg_opx rfl (asB_ne rfl rfl) rfl ?_
        refine Rg_op rfl (op_pick_f (v := (Value.bool false)) rfl rfl ?_)
        refine Rg_op rfl (op_move (v := (Value.bool false)) rfl ?_)
        iterate 4 refine Rg_opx rfl (asB_ne rfl rfl) rfl ?_
        refine Rg_op rfl (op_pick_f (v := (Value.bool false)) rfl rfl ?_)
        refine Rg_op rfl (op_move (v := (Value.bool false)) rfl ?_)
        iterate 4 refine Rg_opx rfl (asB_ne rfl rfl) rfl ?_
        refine Rg_op rfl (op_pick_f (v := (Value.bool false)) rfl rfl ?_)
        refine Rg_op rfl (op_assign (v := (Value.bool false)) rfl ?_)
        refine Rg_nil ?_
        exact hK221 _ _ ⟨false, _, rfl, ⟨(by repeat (first | with_reducible exact Out.refl _ _ | refine Out.upd ?_ rfl | refine Out.updL ?_ rfl | refine Out.mix' ?_ rfl | exact Out.refl _ _)), rfl, rfl, trivial⟩, ch227, hs290, hm⟩
      ·
       replace hm := bif_f hm hg266
       iterate 4 refine Rg_opx rfl (asB_ne rfl rfl) rfl ?_
       refine Rg_op rfl (op_pick_f (v := (Value.bool false)) rfl rfl ?_)
       refine Rg_op rfl (op_move (v := (Value.bool false)) rfl ?_)
       iterate 2 refine Rg_opx rfl (asB_ne rfl rfl) rfl ?_
       refine Rg_op rfl (op_pick_f (v := (Value.bool false)) rfl rfl ?_)
       refine Rg_op rfl (op_move (v := (Value.bool false)) rfl ?_)
       iterate 4 refine Rg_opx rfl (asB_ne rfl rfl) rfl ?_
       refine Rg_op rfl (op_pick_f (v := (Value.bool false)) rfl rfl ?_)
       refine Rg_op rfl (op_move (v := (Value.bool false)) rfl ?_)
       iterate 2 refine Rg_opx rfl (asB_ne rfl rfl) rfl ?_
       refine Rg_op rfl (op_pick_f (v := (Value.bool false)) rfl rfl ?_)
       refine Rg_op rfl (op_move (v := (Value.bool false)) rfl ?_)
       iterate 3 refine Rg_opx rfl (asB_ne rfl rfl) rfl ?_
       refine Rg_op rfl (op_pick_f (v := (Value.bool false)) rfl rfl ?_)
       refine Rg_op rfl (op_move (v := (Value.bool false)) rfl ?_)
       iterate 2 refine Rg_opx rfl (asB_ne rfl rfl) rfl ?_
       refine Rg_op rfl (op_pick_f (v := (Value.bool false)) rfl rfl ?_)
       refine Rg_op rfl (op_move (v := (Value.bool false)) rfl ?_)
       iterate 3 refine Rg_opx rfl (asB_ne rfl rfl) rfl ?_
       refine Rg_op rfl (op_pick_f (v := (Value.bool false)) rfl rfl ?_)
       refine Rg_op rfl (op_move (v := (Value.bool false)) rfl ?_)
       iterate 2 refine Rg_opx rfl (asB_ne rfl rfl) rfl ?_
       refine Rg_op rfl (op_pick_f (v := (Value.bool false)) rfl rfl ?_)
       refine Rg_op rfl (op_move (v := (Value.bool false)) rfl ?_)
       iterate 2 refine Rg_opx rfl (asB_ne rfl rfl) rfl ?_
       refine Rg_op rfl (op_pick_f (v := (Value.bool false)) rfl rfl ?_)
       refine Rg_op rfl (op_move (v := (Value.bool false)) rfl ?_)
       iterate 3 refine Rg_opx rfl (asB_ne rfl rfl) rfl ?_
       refine Rg_op rfl (op_pick_f (v := (Value.bool false)) rfl rfl ?_)
       refine Rg_op rfl (op_move (v := (Value.bool false)) rfl ?_)
       iterate 4 refine Rg_opx rfl (asB_ne rfl rfl) rfl ?_
       refine Rg_op rfl (op_pick_f (v := (Value.bool false)) rfl rfl ?_)
       refine Rg_op rfl (op_move (v := (Value.bool false)) rfl ?_)
       iterate 4 refine Rg_opx rfl (asB_ne rfl rfl) rfl ?_
       refine Rg_op rfl (op_pick_f (v := (Value.bool false)) rfl rfl ?_)
       refine Rg_op rfl (op_move (v := (Value.bool false)) rfl ?_)
       iterate 4 refine Rg_opx rfl (asB_ne rfl rfl) rfl ?_
       refine Rg_op rfl (op_pick_f (v := (Value.bool false)) rfl rfl ?_)
       refine Rg_op rfl (op_assign (v := (Value.bool false)) rfl ?_)
       refine Rg_nil ?_
       exact hK221 _ _ ⟨false, _, rfl, ⟨(by repeat (first | with_reducible exact Out.refl _ _ | refine Out.upd ?_ rfl | refine Out.updL ?_ rfl | refine Out.mix' ?_ rfl | exact Out.refl _ _)), rfl, rfl, trivial⟩, ch227, hs262, hm⟩
     ·
      replace hm := bif_f hm hg265
      iterate 2 refine Rg_opx rfl (asB_ne rfl rfl) rfl ?_
      refine Rg_op rfl (op_pick_f (v := (Value.bool false)) rfl rfl ?_)
      refine Rg_op rfl (op_move (v := (Value.bool false)) rfl ?_)
      iterate 4 refine Rg_opx rfl (asB_ne rfl rfl) rfl ?_
      refine Rg_op rfl (op_pick_f (v := (Value.bool false)) rfl rfl ?_)
      refine Rg_op rfl (op_move (v := (Value.bool false)) rfl ?_)
      iterate 2 refine Rg_opx rfl (asB_ne rfl rfl) rfl ?_
      refine Rg_op rfl (op_pick_f (v := (Value.bool false)) rfl rfl ?_)
      refine Rg_op rfl (op_move (v := (Value.bool false)) rfl ?_)
      iterate 4 refine Rg_opx rfl (asB_ne rfl rfl) rfl ?_
      refine Rg_op rfl (op_pick_f (v := (Value.bool false)) rfl rfl ?_)
      refine Rg_op rfl (op_move (v := (Value.bool false)) rfl ?_)
      iterate 2 refine Rg_opx rfl (asB_ne rfl rfl) rfl ?_
      refine Rg_op rfl (op_pick_f (v := (Value.bool false)) rfl rfl ?_)
      refine Rg_op rfl (op_move (v := (Value.bool false)) rfl ?_)
      iterate 3 refine Rg_opx rfl (asB_ne rfl rfl) rfl ?_
      refine Rg_op rfl (op_pick_f (v := (Value.bool false)) rfl rfl ?_)
      refine Rg_op rfl (op_move (v := (Value.bool false)) rfl ?_)
      iterate 2 refine Rg_opx rfl (asB_ne rfl rfl) rfl ?_
      refine Rg_op rfl (op_pick_f (v := (Value.bool false)) rfl rfl ?_)
      refine Rg_op rfl (op_move (v := (Value.bool false)) rfl ?_)
      iterate 3 refine Rg_opx rfl (asB_ne rfl rfl) rfl ?_
      refine Rg_op rfl (op_pick_f (v := (Value.bool false)) rfl rfl ?_)
      refine Rg_op rfl (op_move (v := (Value.bool false)) rfl ?_)
      iterate 2 refine Rg_opx rfl (asB_ne rfl rfl) rfl ?_
      refine Rg_op rfl (op_pick_f (v := (Value.bool false)) rfl rfl ?_)
      refine Rg_op rfl (op_move (v := (Value.bool false)) rfl ?_)
      iterate 2 refine Rg_opx rfl (asB_ne rfl rfl) rfl ?_
      refine Rg_op rfl (op_pick_f (v := (Value.bool false)) rfl rfl ?_)
      refine Rg_op rfl (op_move (v := (Value.bool false)) rfl ?_)
      iterate 3 refine Rg_opx rfl (asB_ne rfl rfl) rfl ?_
      refine Rg_op rfl (op_pick_f (v := (Value.bool false)) rfl rfl ?_)
      refine Rg_op rfl (op_move (v := (Value.bool false)) rfl ?_)
      iterate 4 refine Rg_opx rfl (asB_ne rfl rfl) rfl ?_
      refine Rg_op rfl (op_pick_f (v := (Value.bool false)) rfl rfl ?_)
      refine Rg_op rfl (op_move (v := (Value.bool false)) rfl ?_)
      iterate 4 refine Rg_opx rfl (asB_ne rfl rfl) rfl ?_
      refine Rg_op rfl (op_pick_f (v := (Value.bool false)) rfl rfl ?_)
      refine Rg_op rfl (op_move (v := (Value.bool false)) rfl ?_)
      iterate 4 refine Rg_opx rfl (asB_ne rfl rfl) rfl ?_
      refine Rg_op rfl (op_pick_f (v := (Value.bool false)) rfl rfl ?_)
      refine Rg_op rfl (op_assign (v := (Value.bool false)) rfl ?_)
      refine Rg_nil ?_
      exact hK221 _ _ ⟨false, _, rfl, ⟨(by repeat (first | with_reducible exact Out.refl _ _ | refine Out.upd ?_ rfl | refine Out.updL ?_ rfl | refine Out.mix' ?_ rfl | exact Out.refl _ _)), rfl, rfl, trivial⟩, ch227, hs262, hm⟩
    ·
     replace hm := bif_f hm hg247
     iterate 3 refine Rg_opx rfl (asB_ne rfl rfl) rfl ?_
     refine Rg_op rfl (op_pick_f (v := (Value.bool false)) rfl rfl ?_)
     refine Rg_op rfl (op_move (v := (Value.bool false)) rfl ?_)
     iterate 2 refine Rg_opx rfl (asB_ne rfl rfl) rfl ?_
     refine Rg_op rfl (op_pick_f (v := (Value.bool false)) rfl rfl ?_)
     refine Rg_op rfl (op_move (v := (Value.bool false)) rfl ?_)
     iterate 4 refine Rg_opx rfl (asB_ne rfl rfl) rfl ?_
     refine Rg_op rfl (op_pick_f (v := (Value.bool false)) rfl rfl ?_)
     refine Rg_op rfl (op_move (v := (Value.bool false)) rfl ?_)
     iterate 2 refine Rg_opx rfl (asB_ne rfl rfl) rfl ?_
     refine Rg_op rfl (op_pick_f (v := (Value.bool false)) rfl rfl ?_)
     refine Rg_op rfl (op_move (v := (Value.bool false)) rfl ?_)
     iterate 4 refine Rg_opx rfl (asB_ne rfl rfl) rfl ?_
     refine Rg_op rfl (op_pick_f (v := (Value.bool false)) rfl rfl ?_)
     refine Rg_op rfl (op_move (v := (Value.bool false)) rfl ?_)
     iterate 2 refine Rg_opx rfl (asB_ne rfl rfl) rfl ?_
     refine Rg_op rfl (op_pick_f (v := (Value.bool false)) rfl rfl ?_)
     refine Rg_op rfl (op_move (v := (Value.bool false)) rfl ?_)
     iterate 3 refine Rg_opx rfl (asB_ne rfl rfl) rfl ?_
     refine Rg_op rfl (op_pick_f (v := (Value.bool false)) rfl rfl ?_)
     refine Rg_op rfl (op_move (v := (Value.bool false)) rfl ?_)
     iterate 2 refine Rg_opx rfl (asB_ne rfl rfl) rfl ?_
     refine Rg_op rfl (op_pick_f (v := (Value.bool false)) rfl rfl ?_)
     refine Rg_op rfl (op_move (v := (Value.bool false)) rfl ?_)
     iterate 3 refine Rg_opx rfl (asB_ne rfl rfl) rfl ?_
     refine Rg_op rfl (op_pick_f (v := (Value.bool false)) rfl rfl ?_)
     refine Rg_op rfl (op_move (v := (Value.bool false)) rfl ?_)
     iterate 2 refine Rg_opx rfl (asB_ne rfl rfl) rfl ?_
     refine Rg_op rfl (op_pick_f (v := (Value.bool false)) rfl rfl ?_)
     refine Rg_op rfl (op_move (v := (Value.bool false)) rfl ?_)
     iterate 2 refine Rg_opx rfl (asB_ne rfl rfl) rfl ?_
     refine Rg_op rfl (op_pick_f (v := (Value.bool false)) rfl rfl ?_)
     refine Rg_op rfl (op_move (v := (Value.bool false)) rfl ?_)
     iterate 3 refine Rg_opx rfl (asB_ne rfl rfl) rfl ?_
     refine Rg_op rfl (op_pick_f (v := (Value.bool false)) rfl rfl ?_)
     refine Rg_op rfl (op_move (v := (Value.bool false)) rfl ?_)
     iterate 4 refine Rg_opx rfl (asB_ne rfl rfl) rfl ?_
     refine Rg_op rfl (op_pick_f (v := (Value.bool false)) rfl rfl ?_)
     refine Rg_op rfl (op_move (v := (Value.bool false)) rfl ?_)
     iterate 4 refine Rg_opx rfl (asB_ne rfl rfl) rfl ?_
     refine Rg_op rfl (op_pick_f (v := (Value.bool false)) rfl rfl ?_)
     refine Rg_op rfl (op_move (v := (Value.bool false)) rfl ?_)
     iterate 4 refine Rg_opx rfl (asB_ne rfl rfl) rfl ?_
     refine Rg_op rfl (op_pick_f (v := (Value.bool false)) rfl rfl ?_)
     refine Rg_op rfl (op_assign (v := (Value.bool false)) rfl ?_)
     refine Rg_nil ?_
     exact hK221 _ _ ⟨false, _, rfl, ⟨(by repeat (first | with_reducible exact Out.refl _ _ | refine Out.upd ?_ rfl | refine Out.updL ?_ rfl | refine Out.mix' ?_ rfl | exact Out.refl _ _)), rfl, rfl, trivial⟩, ch227, hs243, hm⟩
   ·
    replace hm := bif_f hm hg246
    iterate 2 refine Rg_opx rfl (asB_ne rfl rfl) rfl ?_
    refine Rg_op rfl (op_pick_f (v := (Value.bool false)) rfl rfl ?_)
    refine Rg_op rfl (op_move (v := (Value.bool false)) rfl ?_)
    iterate 3 refine Rg_opx rfl (asB_ne rfl rfl) rfl ?_
    refine Rg_op rfl (op_pick_f (v := (Value.bool false)) rfl rfl ?_)
    refine Rg_op rfl (op_move (v := (Value.bool false)) rfl ?_)
    iterate 2 refine Rg_opx rfl (asB_ne rfl rfl) rfl ?_
    refine Rg_op rfl (op_pick_f (v := (Value.bool false)) rfl rfl ?_)
    refine Rg_op rfl (op_move (v := (Value.bool false)) rfl ?_)
    iterate 4 refine Rg_opx rfl (asB_ne rfl rfl) rfl ?_
    refine Rg_op rfl (op_pick_f (v := (Value.bool false)) rfl rfl ?_)
    refine Rg_op rfl (op_move (v := (Value.bool false)) rfl ?_)
    iterate 2 refine Rg_opx rfl (asB_ne rfl rfl) rfl ?_
    refine Rg_op rfl (op_pick_f (v := (Value.bool false)) rfl rfl ?_)
    refine Rg_op rfl (op_move (v := (Value.bool false)) rfl ?_)
    iterate 4 refine Rg_opx rfl (asB_ne rfl rfl) rfl ?_
    refine Rg_op rfl (op_pick_f (v := (Value.bool false)) rfl rfl ?_)
    refine Rg_op rfl (op_move (v := (Value.bool false)) rfl ?_)
    iterate 2 refine Rg_opx rfl (asB_ne rfl rfl) rfl ?_
    refine Rg_op rfl (op_pick_f (v := (Value.bool false)) rfl rfl ?_)
    refine Rg_op rfl (op_move (v := (Value.bool false)) rfl ?_)
    iterate 3 refine Rg_opx rfl (asB_ne rfl rfl) rfl ?_
    refine Rg_op rfl (op_pick_f (v := (Value.bool false)) rfl rfl ?_)
    refine Rg_op rfl (op_move (v := (Value.bool false)) rfl ?_)
    iterate 2 refine Rg_opx rfl (asB_ne rfl rfl) rfl ?_
    refine Rg_op rfl (op_pick_f (v := (Value.bool false)) rfl rfl ?_)
    refine Rg_op rfl (op_move (v := (Value.bool false)) rfl ?_)
    iterate 3 refine Rg_opx rfl (asB_ne rfl rfl) rfl ?_
    refine Rg_op rfl (op_pick_f (v := (Value.bool false)) rfl rfl ?_)
    refine Rg_op rfl (op_move (v := (Value.bool false)) rfl ?_)
    iterate 2 refine Rg_opx rfl (asB_ne rfl rfl) rfl ?_
    refine Rg_op rfl (op_pick_f (v := (Value.bool false)) rfl rfl ?_)
    refine Rg_op rfl (op_move (v := (Value.bool false)) rfl ?_)
    iterate 2 refine Rg_opx rfl (asB_ne rfl rfl) rfl ?_
    refine Rg_op rfl (op_pick_f (v := (Value.bool false)) rfl rfl ?_)
    refine Rg_op rfl (op_move (v := (Value.bool false)) rfl ?_)
    iterate 3 refine Rg_opx rfl (asB_ne rfl rfl) rfl ?_
    refine Rg_op rfl (op_pick_f (v := (Value.bool false)) rfl rfl ?_)
    refine Rg_op rfl (op_move (v := (Value.bool false)) rfl ?_)
    iterate 4 refine Rg_opx rfl (asB_ne rfl rfl) rfl ?_
    refine Rg_op rfl (op_pick_f (v := (Value.bool false)) rfl rfl ?_)
    refine Rg_op rfl (op_move (v := (Value.bool false)) rfl ?_)
    iterate 4 refine Rg_opx rfl (asB_ne rfl rfl) rfl ?_
    refine Rg_op rfl (op_pick_f (v := (Value.bool false)) rfl rfl ?_)
    refine Rg_op rfl (op_move (v := (Value.bool false)) rfl ?_)
    iterate 4 refine Rg_opx rfl (asB_ne rfl rfl) rfl ?_
    refine Rg_op rfl (op_pick_f (v := (Value.bool false)) rfl rfl ?_)
    refine Rg_op rfl (op_assign (v := (Value.bool false)) rfl ?_)
    refine Rg_nil ?_
    exact hK221 _ _ ⟨false, _, rfl, ⟨(by repeat (first | with_reducible exact Out.refl _ _ | refine Out.upd ?_ rfl | refine Out.updL ?_ rfl | refine Out.mix' ?_ rfl | exact Out.refl _ _)), rfl, rfl, trivial⟩, ch227, hs243, hm⟩
  ·
   replace hm := bif_f hm hg228
   iterate 3 refine Rg_opx rfl (asB_ne rfl rfl) rfl ?_
   refine Rg_op rfl (op_pick_f (v := (Value.bool false)) rfl rfl ?_)
   refine Rg_op rfl (op_move (v := (Value.bool false)) rfl ?_)
   iterate 2 refine Rg_opx rfl (asB_ne rfl rfl) rfl ?_
   refine Rg_op rfl (op_pick_f (v := (Value.bool false)) rfl rfl ?_)
   refine Rg_op rfl (op_move (v := (Value.bool false)) rfl ?_)
   iterate 3 refine Rg_opx rfl (asB_ne rfl rfl) rfl ?_
   refine Rg_op rfl (op_pick_f (v := (Value.bool false)) rfl rfl ?_)
   refine Rg_op rfl (op_move (v := (Value.bool false)) rfl ?_)
   iterate 2 refine Rg_opx rfl (asB_ne rfl rfl) rfl ?_
   refine Rg_op rfl (op_pick_f (v := (Value.bool false)) rfl rfl ?_)
   refine Rg_op rfl (op_move (v := (Value.bool false)) rfl ?_)
   iterate 4 refine Rg_opx rfl (asB_ne rfl rfl) rfl ?_
   refine Rg_op rfl (op_pick_f (v := (Value.bool false)) rfl rfl ?_)
   refine Rg_op rfl (op_move (v := (Value.bool false)) rfl ?_)
   iterate 2 refine Rg_opx rfl (asB_ne rfl rfl) rfl ?_
   refine Rg_op rfl (op_pick_f (v := (Value.bool false)) rfl rfl ?_)
   refine Rg_op rfl (op_move (v := (Value.bool false)) rfl ?_)
   iterate 4 refine Rg_opx rfl (asB_ne rfl rfl) rfl ?_
   refine Rg_op rfl (op_pick_f (v := (Value.bool false)) rfl rfl ?_)
   refine Rg_op rfl (op_move (v := (Value.bool false)) rfl ?_)
   iterate 2 refine Rg_opx rfl (asB_ne rfl rfl) rfl ?_
   refine Rg_op rfl (op_pick_f (v := (Value.bool false)) rfl rfl ?_)
   refine Rg_op rfl (op_move (v := (Value.bool false)) rfl ?_)
   iterate 3 refine Rg_opx rfl (asB_ne rfl rfl) rfl ?_
   refine Rg_op rfl (op_pick_f (v := (Value.bool false)) rfl rfl ?_)
   refine Rg_op rfl (op_move (v := (Value.bool false)) rfl ?_)
   iterate 2 refine Rg_opx rfl (asB_ne rfl rfl) rfl ?_
   refine Rg_op rfl (op_pick_f (v := (Value.bool false)) rfl rfl ?_)
   refine Rg_op rfl (op_move (v := (Value.bool false)) rfl ?_)
   iterate 3 refine Rg_opx rfl (asB_ne rfl rfl) rfl ?_
   refine Rg_op rfl (op_pick_f (v := (Value.bool false)) rfl rfl ?_)
   refine Rg_op rfl (op_move (v := (Value.bool false)) rfl ?_)
   iterate 2 refine Rg_opx rfl (asB_ne rfl rfl) rfl ?_
   refine Rg_op rfl (op_pick_f (v := (Value.bool false)) rfl rfl ?_)
   refine Rg_op rfl (op_move (v := (Value.bool false)) rfl ?_)
   iterate 2 refine Rg_opx rfl (asB_ne rfl rfl) rfl ?_
   refine Rg_op rfl (op_pick_f (v := (Value.bool false)) rfl rfl ?_)
   refine Rg_op rfl (op_move (v := (Value.bool false)) rfl ?_)
   iterate 3 refine Rg_opx rfl (asB_ne rfl rfl) rfl ?_
   refine Rg_op rfl (op_pick_f (v := (Value.bool false)) rfl rfl ?_)
   refine Rg_op rfl (op_move (v := (Value.bool false)) rfl ?_)
   iterate 4 refine Rg_opx rfl (asB_ne rfl rfl) rfl ?_
   refine Rg_op rfl (op_pick_f (v := (Value.bool false)) rfl rfl ?_)
   refine Rg_op rfl (op_move (v := (Value.bool false)) rfl ?_)
   iterate 4 refine Rg_opx rfl (asB_ne rfl rfl) rfl ?_
   refine Rg_op rfl (op_pick_f (v := (Value.bool false)) rfl rfl ?_)
   refine Rg_op rfl (op_move (v := (Value.bool false)) rfl ?_)
   iterate 4 refine Rg_opx rfl (asB_ne rfl rfl) rfl ?_
   refine Rg_op rfl (op_pick_f (v := (Value.bool false)) rfl rfl ?_)
   refine Rg_op rfl (op_assign (v := (Value.bool false)) rfl ?_)
   refine Rg_nil ?_
   exact hK221 _ _ ⟨false, _, rfl, ⟨(by repeat (first | with_reducible exact Out.refl _ _ | refine Out.upd ?_ rfl | refine Out.updL ?_ rfl | refine Out.mix' ?_ rfl | exact Out.refl _ _)), rfl, rfl, trivial⟩, ch227, hs209, hm⟩

end Go.Fx



set_option linter.unusedVariables false
set_option linter.unusedSimpArgs false
set_option maxRecDepth 100000
set_option maxHeartbeats 0
namespace Go.Fx
open Go Go.RowKit Go.Proofs
def m54_overflightref37_Valid_B1 (r_ : XRound) (i_1 : Int) (sf21 : Int → Option Bool) (sf46 : Int → Option Bool) (k_1 : Int) : Option Bool :=
 bif (decide (k_1 < r_.slots)) then
  jn (fun (v_3 : Bool) =>
   bif v_3 then
    some false
   else
    sf46 (IntKind.wrap .i64 (k_1 + 1)))
  (fun k59 =>
   ck ((0 : Int) ≤ i_1 ∧ i_1 < (r_.costs.length : Int)) <|
   ck ((0 : Int) ≤ k_1 ∧ k_1 < ((r_.costs.getD i_1.toNat default).length : Int)) <|
   bif (decide (((r_.costs.getD i_1.toNat default).getD k_1.toNat default) < (-1))) then
    k59 true
   else
    ck ((0 : Int) ≤ i_1 ∧ i_1 < (r_.costs.length : Int)) <|
    ck ((0 : Int) ≤ k_1 ∧ k_1 < ((r_.costs.getD i_1.toNat default).length : Int)) <|
    bif (decide (1048576 < ((r_.costs.getD i_1.toNat default).getD k_1.toNat default))) then
     k59 true
    else
     bif (decide (k_1 = i_1)) then
      ck ((0 : Int) ≤ i_1 ∧ i_1 < (r_.costs.length : Int)) <|
      ck ((0 : Int) ≤ k_1 ∧ k_1 < ((r_.costs.getD i_1.toNat default).length : Int)) <|
      k59 (decide (((r_.costs.getD i_1.toNat default).getD k_1.toNat default) < 0))
     else
      k59 false)
 else
  sf21 (IntKind.wrap .i64 (i_1 + 1))

def m54_overflightref37_Valid_B0 (r_ : XRound) (sf21 : Int → Option Bool) (i_1 : Int) : Option Bool :=
 bif (decide (i_1 < (r_.owners.length : Int))) then
  jn (fun (v_2 : Bool) =>
   bif v_2 then
    some false
   else
    loop1 (m54_overflightref37_Valid_B1 r_ i_1 sf21) ((r_.slots - 0).toNat + 1) 0)
  (fun k35 =>
   ck ((0 : Int) ≤ i_1 ∧ i_1 < (r_.owners.length : Int)) <|
   bif (decide ((r_.owners.getD i_1.toNat default) < 0)) then
    k35 true
   else
    ck ((0 : Int) ≤ i_1 ∧ i_1 < (r_.owners.length : Int)) <|
    bif (decide (8 ≤ (r_.owners.getD i_1.toNat default))) then
     k35 true
    else
     ck ((0 : Int) ≤ i_1 ∧ i_1 < (r_.costs.length : Int)) <|
     k35 (decide (((r_.costs.getD i_1.toNat default).length : Int) ≠ r_.slots)))
 else
  some true

def m54_overflightref37_Valid (r_ : XRound) : Option Bool :=
 jn (fun (v_1 : Bool) =>
  bif v_1 then
   some false
  else
   loop1 (m54_overflightref37_Valid_B0 r_) (((r_.owners.length : Int) - 0).toNat + 1) 0)
 (fun k8 =>
  bif (decide (r_.slots < 1)) then
   k8 true
  else
   bif (decide (8 < r_.slots)) then
    k8 true
   else
    bif (decide (r_.slots < (r_.owners.length : Int))) then
     k8 true
    else
     k8 (decide ((r_.costs.length : Int) ≠ (r_.owners.length : Int))))

theorem c54_overflightref37_Valid {w : World} {O : List Nat} {r_ : XRound} {a_r__owners : Option Addr} {c_r__owners : Nat} {a_r__costs : Option Addr} {c_r__costs : Nat} (hO : ∀ k ∈ O, k < w.heap.size) (r_r__slots : InK .i64 r_.slots) (f_r__owners : SlR (rInt .i64) w O a_r__owners c_r__owners r_.owners) (f_r__costs : SlR (rSl (rInt .i64)) w O a_r__costs c_r__costs r_.costs) {x : Bool} (hm : m54_overflightref37_Valid r_ = some x) :
  Ok Try.prog 54 [(Value.agg [(Value.int .i64 r_.slots), (Value.slice a_r__owners r_.owners.length c_r__owners), (Value.slice a_r__costs r_.costs.length c_r__costs)].toArray)] w O vB x := by
 unfold m54_overflightref37_Valid at hm
 refine Fn_of_Wp (n := 104) (xs := [.tmp 2]) Try.func54 rfl Try.ntmps54 Try.results54 rfl ?_
 have hs := St.start hO
 refine Wp_seq ?_
 refine Wp_region ?_
 refine Rg_op rfl (op_box (cs := [(Value.int .i64 r_.slots), (Value.slice a_r__owners r_.owners.length c_r__owners), (Value.slice a_r__costs r_.costs.length c_r__costs)]) hs rfl rfl ?_)
 intro b1 w2 _ p3 hs4
 replace f_r__owners := f_r__owners.step p3; replace f_r__costs := f_r__costs.step p3; clear p3
 refine Rg_op rfl (op_assign (v := (Value.bool false)) rfl ?_)
 refine Rg_nil ?_
 refine Wp_seq ?_
 refine Wp_reset [] [(1, (Value.pointer (some ⟨b1, 0, none⟩)))] rfl ⟨rfl, trivial⟩ fun ξ6 => ?_
 replace hm := jn_elim hm; obtain ⟨k8, hk9, hm⟩ := hm
 refine Wp_seqJ [5, 6, 7, 8, 9, 10, 11, 12, 13, 14, 15, 16, 17, 18, 19, 20, 21, 22, 23, 24, 25, 26, 27, 28, 29] (fun fr w' => ∃ (v_1 : Bool) (Ebs : Ents), Ebs = [(some b1, Obj.cells [(Value.int .i64 r_.slots), (Value.slice a_r__owners r_.owners.length c_r__owners), (Value.slice a_r__costs r_.costs.length c_r__costs)].toArray 25)] ∧ fr [] [(29, (Value.bool v_1))] ∧ Step (ks [(some b1, Obj.cells [(Value.int .i64 r_.slots), (Value.slice a_r__owners r_.owners.length c_r__owners), (Value.slice a_r__costs r_.costs.length c_r__costs)].toArray 25)] O) w2 (ks Ebs O) w' ∧ St ⟨w, [], []⟩ O w' Ebs ∧ k8 v_1 = some x) ?_ ?_
 ·
  rintro ρ15 w11 ⟨v_1, Ebs, hEbs, hfr14, hst13, hs12, hm⟩
  replace hm := jnE1 hk9 hm
  subst hEbs; rw [hfr14.eq]; clear hfr14
  replace f_r__owners := f_r__owners.step hst13; replace f_r__costs := f_r__costs.step hst13; clear hst13 hs4
  refine Wp_cond rfl (fun hc16 => ?_) (fun hc16 => ?_)
  ·
   replace hm := bif_t hm hc16
   refine Wp_seq ?_
   obtain ⟨hs17, p18⟩ := hs12.sub (bs' := []) (.cons _ List.Sublist.slnil)
   clear f_r__owners f_r__costs
   clear p18 hs12
   refine Wp_region ?_
   refine Rg_op rfl (op_assign (v := (Value.bool false)) rfl ?_)
   refine Rg_nil ?_
   refine Wp_ret ?_
   have hz := step_all hs17
   refine ⟨_, (show Closes [] _ _ from rfl), [(Value.bool false)], ⟨rfl, trivial⟩, hs17.ext, ?_⟩
   exact Vr.eq (a := vB) (x := false) rfl (Option.some.inj hm)
  ·
   replace hm := bif_f hm hc16
   refine Wp_skip ?_
   refine Wp_seq ?_
   refine Wp_seq ?_
   refine Wp_region ?_
   refine Rg_op rfl (op_assign (v := (Value.int .i64 0)) rfl ?_)
   refine Rg_nil ?_
   refine Wp_block ?_
   refine Wp_reset [] [(1, (Value.pointer (some ⟨b1, 0, none⟩))), (3, (Value.int .i64 0))] rfl ⟨rfl, rfl, trivial⟩ fun ξ20 => ?_
   refine Wp_loopM [2, 3, 4, 30, 31, 32, 33, 34, 35, 36, 37, 38, 39, 40, 41, 42, 43, 44, 45, 46, 47, 48, 49, 50, 51, 52, 53, 54, 55, 56, 57, 58, 59, 60, 61, 62, 63, 64, 65, 66, 67, 68, 69, 70, 71, 72, 73, 74, 75, 76, 77, 78, 79, 80, 81, 82, 83, 84, 85, 86, 87, 88, 89, 90, 91, 92, 93, 94, 95, 96, 97, 98, 99, 100, 101, 102, 103] (fun m fr w' => ∃ (i_1 : Int) (Ebs : Ents), Ebs = [(some b1, Obj.cells [(Value.int .i64 r_.slots), (Value.slice a_r__owners r_.owners.length c_r__owners), (Value.slice a_r__costs r_.costs.length c_r__costs)].toArray 25)] ∧ fr [] [(3, (Value.int .i64 i_1))] ∧ Step (ks [(some b1, Obj.cells [(Value.int .i64 r_.slots), (Value.slice a_r__owners r_.owners.length c_r__owners), (Value.slice a_r__costs r_.costs.length c_r__costs)].toArray 25)] O) w11 (ks Ebs O) w' ∧ St ⟨w, [], []⟩ O w' Ebs ∧ InK .i64 i_1 ∧ loop1 (m54_overflightref37_Valid_B0 r_) m i_1 = some x) (((r_.owners.length : Int) - 0).toNat + 1) ⟨0, _, rfl, ⟨Out.refl _ _, rfl, rfl, trivial⟩, Step.refl _ _, hs12, (show InK .i64 0 from by decide), hm⟩ ?_ ?_
   · rintro _ _ ⟨_, _, _, _, _, _, _, hm⟩; exact loop1_z hm
   ·
    rintro m24 K23 hK23 ρ29 w25 ⟨i_1, Ebs, hEbs, hfr28, hst27, hs26, r_y19, hm⟩
    obtain ⟨sf21, hsf22, hm⟩ := loop1_s hm; unfold m54_overflightref37_Valid_B0 at hm
    subst hEbs; rw [hfr28.eq]; clear hfr28
    replace f_r__owners := f_r__owners.step hst27; replace f_r__costs := f_r__costs.step hst27
    have ch30 := hst27
    refine Wp_seq ?_
    refine Wp_seq ?_
    refine Wp_region ?_
    refine Rg_op rfl (op_move (v := (Value.int .i64 i_1)) rfl ?_)
    refine Rg_op rfl (op_fieldAddr ty25 rfl ty22 (by decide) rfl (rfl : _ = (⟨_, 1, none⟩ : Addr)) ?_)
    refine Rg_op rfl (op_load (cs := [(Value.int .i64 r_.slots), (Value.slice a_r__owners r_.owners.length c_r__owners), (Value.slice a_r__costs r_.costs.length c_r__costs)]) (i := 0) ty22 hs26 rfl rfl rfl ?_)
    refine Rg_op rfl (op_len Try.underlying22 rfl ?_)
    have rl31 := inK_len f_r__owners
    refine Rg_op rfl (op_lss rfl rfl ?_)
    refine Rg_nil ?_
    refine Wp_cond rfl (fun hc32 => ?_) (fun hc32 => ?_)
    ·
     replace hm := bif_t hm hc32
     refine Wp_skip ?_
     refine Wp_seq ?_
     refine Wp_block ?_
     refine Wp_seq ?_
     refine Wp_reset2 [2, 3, 4, 30, 31, 32, 33, 34, 35, 36, 37, 38, 39, 40, 41, 42, 43, 44, 45, 46, 47, 48, 49, 50, 51, 52, 53, 54, 55, 56, 57, 58, 59, 60, 61, 62, 63, 64, 65, 66, 67, 68, 69, 70, 71, 72, 73, 74, 75, 76, 77, 78, 79, 80, 81, 82, 83, 84, 85, 86, 87, 88, 89, 90, 91, 92, 93, 94, 95, 96, 97, 98, 99, 100, 101, 102, 103] [] (updL ⟨ξ20, []⟩ [(1, (Value.pointer (some ⟨b1, 0, none⟩))), (3, (Value.int .i64 0))]) [(3, (Value.int .i64 i_1))] (by repeat (first | with_reducible exact Out.refl _ _ | refine Out.upd ?_ rfl | refine Out.updL ?_ rfl | refine Out.mix' ?_ rfl | exact Out.refl _ _)) rfl ⟨rfl, trivial⟩ fun ξ33 => ?_
     replace hm := jn_elim hm; obtain ⟨k35, hk36, hm⟩ := hm
     refine Wp_seqJ [37, 38, 39, 40, 41, 42, 43, 44, 45, 46, 47, 48, 49, 50, 51, 52, 53, 54, 55, 56, 57, 58, 59, 60, 61] (fun fr w' => ∃ (v_2 : Bool) (Ebs : Ents), Ebs = [(some b1, Obj.cells [(Value.int .i64 r_.slots), (Value.slice a_r__owners r_.owners.length c_r__owners), (Value.slice a_r__costs r_.costs.length c_r__costs)].toArray 25)] ∧ fr [] [(61, (Value.bool v_2))] ∧ Step (ks [(some b1, Obj.cells [(Value.int .i64 r_.slots), (Value.slice a_r__owners r_.owners.length c_r__owners), (Value.slice a_r__costs r_.costs.length c_r__costs)].toArray 25)] O) w25 (ks Ebs O) w' ∧ St ⟨w, [], []⟩ O w' Ebs ∧ k35 v_2 = some x) ?_ ?_
     ·
      rintro ρ42 w38 ⟨v_2, Ebs, hEbs, hfr41, hst40, hs39, hm⟩
      replace hm := jnE1 hk36 hm
      subst hEbs; rw [hfr41.eq]; clear hfr41
      replace f_r__owners := f_r__owners.step hst40; replace f_r__costs := f_r__costs.step hst40; replace ch30 := ch30.trans hst40; clear hst40 hs26
      refine Wp_cond rfl (fun hc43 => ?_) (fun hc43 => ?_)
      ·
       replace hm := bif_t hm hc43
       refine Wp_seq ?_
       refine Wp_region ?_
       refine Rg_op rfl (op_assign (v := (Value.bool false)) rfl ?_)
       refine Rg_nil ?_
       refine Wp_ret ?_
       have hz := step_all hs39
       replace f_r__owners := f_r__owners.step hz; replace f_r__costs := f_r__costs.step hz
       refine ⟨_, (show Closes [] _ _ from rfl), [(Value.bool false)], ⟨rfl, trivial⟩, hs39.ext, ?_⟩
       exact Vr.eq (a := vB) (x := false) rfl (Option.some.inj hm)
      ·
       replace hm := bif_f hm hc43
       refine Wp_skip ?_
       refine Wp_seq ?_
       refine Wp_region ?_
       refine Rg_op rfl (op_assign (v := (Value.int .i64 0)) rfl ?_)
       refine Rg_nil ?_
       refine Wp_block ?_
       refine Wp_reset2 [2, 3, 4, 30, 31, 32, 33, 34, 35, 36, 37, 38, 39, 40, 41, 42, 43, 44, 45, 46, 47, 48, 49, 50, 51, 52, 53, 54, 55, 56, 57, 58, 59, 60, 61, 62, 63, 64, 65, 66, 67, 68, 69, 70, 71, 72, 73, 74, 75, 76, 77, 78, 79, 80, 81, 82, 83, 84, 85, 86, 87, 88, 89, 90, 91, 92, 93, 94, 95, 96, 97, 98, 99, 100, 101, 102, 103] [] (updL ⟨ξ20, []⟩ [(1, (Value.pointer (some ⟨b1, 0, none⟩))), (3, (Value.int .i64 0))]) [(3, (Value.int .i64 i_1)), (4, (Value.int .i64 0))] (by repeat (first | with_reducible exact Out.refl _ _ | refine Out.upd ?_ rfl | refine Out.updL ?_ rfl | refine Out.mix' ?_ rfl | exact Out.refl _ _)) rfl ⟨rfl, rfl, trivial⟩ fun ξ45 => ?_
       refine Wp_loopM [2, 4, 62, 63, 64, 65, 66, 67, 68, 69, 70, 71, 72, 73, 74, 75, 76, 77, 78, 79, 80, 81, 82, 83, 84, 85, 86, 87, 88, 89, 90, 91, 92, 93, 94, 95, 96, 97, 98, 99, 100, 101, 102, 103] (fun m fr w' => ∃ (k_1 : Int) (Ebs : Ents), Ebs = [(some b1, Obj.cells [(Value.int .i64 r_.slots), (Value.slice a_r__owners r_.owners.length c_r__owners), (Value.slice a_r__costs r_.costs.length c_r__costs)].toArray 25)] ∧ fr [] [(4, (Value.int .i64 k_1))] ∧ Step (ks [(some b1, Obj.cells [(Value.int .i64 r_.slots), (Value.slice a_r__owners r_.owners.length c_r__owners), (Value.slice a_r__costs r_.costs.length c_r__costs)].toArray 25)] O) w38 (ks Ebs O) w' ∧ St ⟨w, [], []⟩ O w' Ebs ∧ InK .i64 k_1 ∧ loop1 (m54_overflightref37_Valid_B1 r_ i_1 sf21) m k_1 = some x) ((r_.slots - 0).toNat + 1) ⟨0, _, rfl, ⟨Out.refl _ _, rfl, rfl, trivial⟩, Step.refl _ _, hs39, (show InK .i64 0 from by decide), hm⟩ ?_ ?_
       · rintro _ _ ⟨_, _, _, _, _, _, _, hm⟩; exact loop1_z hm
       ·
        rintro m49 K48 hK48 ρ54 w50 ⟨k_1, Ebs, hEbs, hfr53, hst52, hs51, r_y44, hm⟩
        obtain ⟨sf46, hsf47, hm⟩ := loop1_s hm; unfold m54_overflightref37_Valid_B1 at hm
        subst hEbs; rw [hfr53.eq]; clear hfr53
        replace f_r__owners := f_r__owners.step hst52; replace f_r__costs := f_r__costs.step hst52; replace ch30 := ch30.trans hst52
        have ch55 := hst52
        refine Wp_seq ?_
        refine Wp_seq ?_
        refine Wp_region ?_
        refine Rg_op rfl (op_move (v := (Value.int .i64 k_1)) rfl ?_)
        refine Rg_op rfl (op_fieldAddr ty25 rfl ty3 (by decide) rfl (rfl : _ = (⟨_, 0, none⟩ : Addr)) ?_)
        refine Rg_op rfl (op_load (cs := [(Value.int .i64 r_.slots), (Value.slice a_r__owners r_.owners.length c_r__owners), (Value.slice a_r__costs r_.costs.length c_r__costs)]) (i := 0) ty3 hs51 rfl rfl rfl ?_)
        refine Rg_op rfl (op_lss rfl rfl ?_)
        refine Rg_nil ?_
        refine Wp_cond rfl (fun hc56 => ?_) (fun hc56 => ?_)
        ·
         replace hm := bif_t hm hc56
         refine Wp_skip ?_
         refine Wp_seq ?_
         refine Wp_block ?_
         refine Wp_reset2 [2, 4, 62, 63, 64, 65, 66, 67, 68, 69, 70, 71, 72, 73, 74, 75, 76, 77, 78, 79, 80, 81, 82, 83, 84, 85, 86, 87, 88, 89, 90, 91, 92, 93, 94, 95, 96, 97, 98, 99, 100, 101, 102, 103] [] (updL (mix [2, 3, 4, 30, 31, 32, 33, 34, 35, 36, 37, 38, 39, 40, 41, 42, 43, 44, 45, 46, 47, 48, 49, 50, 51, 52, 53, 54, 55, 56, 57, 58, 59, 60, 61, 62, 63, 64, 65, 66, 67, 68, 69, 70, 71, 72, 73, 74, 75, 76, 77, 78, 79, 80, 81, 82, 83, 84, 85, 86, 87, 88, 89, 90, 91, 92, 93, 94, 95, 96, 97, 98, 99, 100, 101, 102, 103] [] ξ45 (updL ⟨ξ20, []⟩ [(1, (Value.pointer (some ⟨b1, 0, none⟩))), (3, (Value.int .i64 0))])) [(3, (Value.int .i64 i_1)), (4, (Value.int .i64 0))]) [(4, (Value.int .i64 k_1))] (by repeat (first | with_reducible exact Out.refl _ _ | refine Out.upd ?_ rfl | refine Out.updL ?_ rfl | refine Out.mix' ?_ rfl | exact Out.refl _ _)) rfl ⟨rfl, trivial⟩ fun ξ57 => ?_
         replace hm := jn_elim hm; obtain ⟨k59, hk60, hm⟩ := hm
         refine Wp_seqJ [68, 69, 70, 71, 72, 73, 74, 75, 76, 77, 78, 79, 80, 81, 82, 83, 84, 85, 86, 87, 88, 89, 90, 91, 92, 93, 94, 95, 96, 97, 98, 99, 100, 101, 102, 103] (fun fr w' => ∃ (v_3 : Bool) (Ebs : Ents), Ebs = [(some b1, Obj.cells [(Value.int .i64 r_.slots), (Value.slice a_r__owners r_.owners.length c_r__owners), (Value.slice a_r__costs r_.costs.length c_r__costs)].toArray 25)] ∧ fr [] [(103, (Value.bool v_3))] ∧ Step (ks [(some b1, Obj.cells [(Value.int .i64 r_.slots), (Value.slice a_r__owners r_.owners.length c_r__owners), (Value.slice a_r__costs r_.costs.length c_r__costs)].toArray 25)] O) w50 (ks Ebs O) w' ∧ St ⟨w, [], []⟩ O w' Ebs ∧ k59 v_3 = some x) ?_ ?_
         ·
          rintro ρ66 w62 ⟨v_3, Ebs, hEbs, hfr65, hst64, hs63, hm⟩
          replace hm := jnE1 hk60 hm
          subst hEbs; rw [hfr65.eq]; clear hfr65
          replace f_r__owners := f_r__owners.step hst64; replace f_r__costs := f_r__costs.step hst64; replace ch30 := ch30.trans hst64; replace ch55 := ch55.trans hst64; clear hst64 hs51
          refine Wp_cond rfl (fun hc67 => ?_) (fun hc67 => ?_)
          ·
           replace hm := bif_t hm hc67
           refine Wp_seq ?_
           refine Wp_region ?_
           refine Rg_op rfl (op_assign (v := (Value.bool false)) rfl ?_)
           refine Rg_nil ?_
           refine Wp_ret ?_
           have hz := step_all hs63
           replace f_r__owners := f_r__owners.step hz; replace f_r__costs := f_r__costs.step hz
           refine ⟨_, (show Closes [] _ _ from rfl), [(Value.bool false)], ⟨rfl, trivial⟩, hs63.ext, ?_⟩
           exact Vr.eq (a := vB) (x := false) rfl (Option.some.inj hm)
          ·
           replace hm := bif_f hm hc67
           refine Wp_skip ?_
           refine Wp_region ?_
           refine Rg_op rfl (op_move (v := (Value.int .i64 k_1)) rfl ?_)
           refine Rg_op rfl (op_addw rfl rfl ?_)
           refine Rg_op rfl (op_assign (v := (Value.int .i64 (IntKind.wrap .i64 (k_1 + 1)))) rfl ?_)
           refine Rg_nil ?_
           exact hK48 _ _ ⟨(IntKind.wrap .i64 (k_1 + 1)), _, rfl, ⟨(by repeat (first | with_reducible exact Out.refl _ _ | refine Out.upd ?_ rfl | refine Out.updL ?_ rfl | refine Out.mix' ?_ rfl | exact Out.refl _ _)), rfl, rfl, trivial⟩, ch55, hs63, (inK_wrap .i64 _), jnE1 hsf47 hm⟩
         ·
          intro K61 hK61
          have ch68 := Step.refl (ks [(some b1, Obj.cells [(Value.int .i64 r_.slots), (Value.slice a_r__owners r_.owners.length c_r__owners), (Value.slice a_r__costs r_.costs.length c_r__costs)].toArray 25)] O) w50
          refine Wp_region ?_
          refine Rg_op rfl (op_fieldAddr ty25 rfl ty23 (by decide) rfl (rfl : _ = (⟨_, 2, none⟩ : Addr)) ?_)
          refine Rg_op rfl (op_load (cs := [(Value.int .i64 r_.slots), (Value.slice a_r__owners r_.owners.length c_r__owners), (Value.slice a_r__costs r_.costs.length c_r__costs)]) (i := 0) ty23 hs51 rfl rfl rfl ?_)
          refine Rg_op rfl (op_move (v := (Value.int .i64 i_1)) rfl ?_)
          replace hm := ck_some hm; obtain ⟨hc69, hm⟩ := hm
          refine Rg_op rfl (op_indexAddr (q := (rSl (rInt .i64))) ty23 ty22 rfl rfl f_r__costs rfl hc69.1 hc69.2 ?_)
          intro p70 f71
          refine Rg_op rfl (op_loadP ty22 rfl f71 rfl ?_)
          intro v72 h73
          obtain ⟨a_y74, c_y74, rfl, f_y74⟩ := un_sl h73
          refine Rg_op rfl (op_move (v := (Value.int .i64 k_1)) rfl ?_)
          replace hm := ck_some hm; obtain ⟨hc75, hm⟩ := hm
          refine Rg_op rfl (op_indexAddr (q := (rInt .i64)) ty22 ty3 rfl rfl f_y74 rfl hc75.1 hc75.2 ?_)
          intro p76 f77
          refine Rg_op rfl (op_loadP ty3 rfl f77 rfl ?_)
          intro v78 h79
          obtain ⟨rfl, r_y80⟩ := un_int h79
          refine Rg_op rfl (op_lss rfl rfl ?_)
          refine Rg_op rfl (op_move (v := (Value.bool (decide (((r_.costs.getD i_1.toNat default).getD k_1.toNat default) < (-1))))) rfl ?_)
          refine Rg_case (fun hg81 => ?_) (fun hg81 => ?_)
          ·
           replace hm := bif_t hm hg81
           iterate 9 refine Rg_opx rfl (asB_ne rfl rfl) rfl ?_
           refine Rg_op rfl (op_pick_t (v := (Value.bool true)) rfl rfl ?_)
           refine Rg_op rfl (op_move (v := (Value.bool true)) rfl ?_)
           iterate 14 refine Rg_opx rfl (asB_ne rfl rfl) rfl ?_
           refine Rg_op rfl (op_pick_t (v := (Value.bool true)) rfl rfl ?_)
           refine Rg_nil ?_
           exact hK61 _ _ ⟨true, _, rfl, ⟨(by repeat (first | with_reducible exact Out.refl _ _ | refine Out.upd ?_ rfl | refine Out.updL ?_ rfl | refine Out.mix' ?_ rfl | exact Out.refl _ _)), rfl, rfl, trivial⟩, ch68, hs51, hm⟩
          ·
           replace hm := bif_f hm hg81
           refine Rg_opg rfl rfl rfl (op_fieldAddr ty25 rfl ty23 (by decide) rfl (rfl : _ = (⟨_, 2, none⟩ : Addr)) ?_)
           refine Rg_opg rfl rfl rfl (op_load (cs := [(Value.int .i64 r_.slots), (Value.slice a_r__owners r_.owners.length c_r__owners), (Value.slice a_r__costs r_.costs.length c_r__costs)]) (i := 0) ty23 hs51 rfl rfl rfl ?_)
           refine Rg_opg rfl rfl rfl (op_move (v := (Value.int .i64 i_1)) rfl ?_)
           replace hm := ck_some hm; obtain ⟨hc82, hm⟩ := hm
           refine Rg_opg rfl rfl rfl (op_indexAddr (q := (rSl (rInt .i64))) ty23 ty22 rfl rfl f_r__costs rfl hc82.1 hc82.2 ?_)
           intro p83 f84
           refine Rg_opg rfl rfl rfl (op_loadP ty22 rfl f84 rfl ?_)
           intro v85 h86
           obtain ⟨a_y87, c_y87, rfl, f_y87⟩ := un_sl h86
           refine Rg_opg rfl rfl rfl (op_move (v := (Value.int .i64 k_1)) rfl ?_)
           replace hm := ck_some hm; obtain ⟨hc88, hm⟩ := hm
           refine Rg_opg rfl rfl rfl (op_indexAddr (q := (rInt .i64)) ty22 ty3 rfl rfl f_y87 rfl hc88.1 hc88.2 ?_)
           intro p89 f90
           refine Rg_opg rfl rfl rfl (op_loadP ty3 rfl f90 rfl ?_)
           intro v91 h92
           obtain ⟨rfl, r_y93⟩ := un_int h92
           refine Rg_opg rfl rfl rfl (op_gtr rfl rfl ?_)
           refine Rg_op rfl (op_pick_f (v := (Value.bool (decide (1048576 < ((r_.costs.getD i_1.toNat default).getD k_1.toNat default))))) rfl rfl ?_)
           refine Rg_op rfl (op_move (v := (Value.bool (decide (1048576 < ((r_.costs.getD i_1.toNat default).getD k_1.toNat default))))) rfl ?_)
           refine Rg_case (fun hg94 => ?_) (fun hg94 => ?_)
           ·
            replace hm := bif_t hm hg94
            iterate 14 refine Rg_opx rfl (asB_ne rfl rfl) rfl ?_
            refine Rg_op rfl (op_pick_t (v := (Value.bool true)) rfl rfl ?_)
            refine Rg_nil ?_
            exact hK61 _ _ ⟨true, _, rfl, ⟨(by repeat (first | with_reducible exact Out.refl _ _ | refine Out.upd ?_ rfl | refine Out.updL ?_ rfl | refine Out.mix' ?_ rfl | exact Out.refl _ _)), rfl, rfl, trivial⟩, ch68, hs51, hm⟩
           ·
            replace hm := bif_f hm hg94
            refine Rg_opg rfl rfl rfl (op_move (v := (Value.int .i64 k_1)) rfl ?_)
            refine Rg_opg rfl rfl rfl (op_move (v := (Value.int .i64 i_1)) rfl ?_)
            refine Rg_opg rfl rfl rfl (op_eql rfl rfl ?_)
            refine Rg_opg rfl rfl rfl (op_move (v := (Value.bool (decide (k_1 = i_1)))) rfl ?_)
            refine Rg_case (fun hg95 => ?_) (fun hg95 => ?_)
            ·
             replace hm := bif_t hm hg95
             refine Rg_opg rfl rfl rfl (op_fieldAddr ty25 rfl ty23 (by decide) rfl (rfl : _ = (⟨_, 2, none⟩ : Addr)) ?_)
             refine Rg_opg rfl rfl rfl (op_load (cs := [(Value.int .i64 r_.slots), (Value.slice a_r__owners r_.owners.length c_r__owners), (Value.slice a_r__costs r_.costs.length c_r__costs)]) (i := 0) ty23 hs51 rfl rfl rfl ?_)
             refine Rg_opg rfl rfl rfl (op_move (v := (Value.int .i64 i_1)) rfl ?_)
             replace hm := ck_some hm; obtain ⟨hc96, hm⟩ := hm
             refine Rg_opg rfl rfl rfl (op_indexAddr (q := (rSl (rInt .i64))) ty23 ty22 rfl rfl f_r__costs rfl hc96.1 hc96.2 ?_)
             intro p97 f98
             refine Rg_opg rfl rfl rfl (op_loadP ty22 rfl f98 rfl ?_)
             intro v99 h100
             obtain ⟨a_y101, c_y101, rfl, f_y101⟩ := un_sl h100
             refine Rg_opg rfl rfl rfl (op_move (v := (Value.int .i64 k_1)) rfl ?_)
             replace hm := ck_some hm; obtain ⟨hc102, hm⟩ := hm
             refine Rg_opg rfl rfl rfl (op_indexAddr (q := (rInt .i64)) ty22 ty3 rfl rfl f_y101 rfl hc102.1 hc102.2 ?_)
             intro p103 f104
             refine Rg_opg rfl rfl rfl (op_loadP ty3 rfl f104 rfl ?_)
             intro v105 h106
             obtain ⟨rfl, r_y107⟩ := un_int h106
             refine Rg_opg rfl rfl rfl (op_lss rfl rfl ?_)
             refine Rg_opg rfl rfl rfl (op_pick_t (v := (Value.bool (decide (((r_.costs.getD i_1.toNat default).getD k_1.toNat default) < 0)))) rfl rfl ?_)
             refine Rg_op rfl (op_pick_f (v := (Value.bool (decide (((r_.costs.getD i_1.toNat default).getD k_1.toNat default) < 0)))) rfl rfl ?_)
             refine Rg_nil ?_
             exact hK61 _ _ ⟨(decide (((r_.costs.getD i_1.toNat default).getD k_1.toNat default) < 0)), _, rfl, ⟨(by repeat (first | with_reducible exact Out.refl _ _ | refine Out.upd ?_ rfl | refine Out.updL ?_ rfl | refine Out.mix' ?_ rfl | exact Out.refl _ _)), rfl, rfl, trivial⟩, ch68, hs51, hm⟩
            ·
             replace hm := bif_f hm hg95
             iterate 9 refine Rg_opx rfl (asB_ne rfl rfl) rfl ?_
             refine Rg_opg rfl rfl rfl (op_pick_f (v := (Value.bool false)) rfl rfl ?_)
             refine Rg_op rfl (op_pick_f (v := (Value.bool false)) rfl rfl ?_)
             refine Rg_nil ?_
             exact hK61 _ _ ⟨false, _, rfl, ⟨(by repeat (first | with_reducible exact Out.refl _ _ | refine Out.upd ?_ rfl | refine Out.updL ?_ rfl | refine Out.mix' ?_ rfl | exact Out.refl _ _)), rfl, rfl, trivial⟩, ch68, hs51, hm⟩
        ·
         replace hm := bif_f hm hc56
         refine Wp_exit ?_
         refine Wp_region ?_
         refine Rg_op rfl (op_move (v := (Value.int .i64 i_1)) rfl ?_)
         refine Rg_op rfl (op_addw rfl rfl ?_)
         refine Rg_op rfl (op_assign (v := (Value.int .i64 (IntKind.wrap .i64 (i_1 + 1)))) rfl ?_)
         refine Rg_nil ?_
         exact hK23 _ _ ⟨(IntKind.wrap .i64 (i_1 + 1)), _, rfl, ⟨(by repeat (first | with_reducible exact Out.refl _ _ | refine Out.upd ?_ rfl | refine Out.updL ?_ rfl | refine Out.mix' ?_ rfl | exact Out.refl _ _)), rfl, rfl, trivial⟩, ch30, hs51, (inK_wrap .i64 _), jnE1 hsf22 hm⟩
     ·
      intro K37 hK37
      have ch108 := Step.refl (ks [(some b1, Obj.cells [(Value.int .i64 r_.slots), (Value.slice a_r__owners r_.owners.length c_r__owners), (Value.slice a_r__costs r_.costs.length c_r__costs)].toArray 25)] O) w25
      refine Wp_drawR (g0 := []) (m := 23) (fl := []) (TS_inv hs26) rfl (.inl rfl) rfl (by decide +kernel) ?_  -- 6
      refine Dw_eq (Value.pointer (some ⟨b1, 1, none⟩)) (fun ρ109 w110 g hle hi ht => ?_) ?_
      ·
       obtain ⟨-, hst, -⟩ := hle
       refine StepOp_plain (op_fieldAddr ty25 rfl ty22 (by decide) (ht 1 rfl) (rfl : _ = (⟨_, 1, none⟩ : Addr)) ?_)
       exact Goes.same hi rfl
      refine Dw_eq (Value.slice a_r__owners r_.owners.length c_r__owners) (fun ρ112 w113 g hle hi ht => ?_) ?_
      ·
       obtain ⟨-, hst, -⟩ := hle
       have hsn := (Step.nx hi).1
       refine StepOp_plain (op_load (cs := [(Value.int .i64 r_.slots), (Value.slice a_r__owners r_.owners.length c_r__owners), (Value.slice a_r__costs r_.costs.length c_r__costs)]) (i := 0) ty22 hsn (ht 37 rfl) rfl rfl ?_)
       exact Goes.same hi rfl
      refine Dw_eq (Value.int .i64 i_1) (fun ρ115 w116 g hle hi ht => ?_) ?_
      ·
       obtain ⟨-, hst, -⟩ := hle
       refine StepOp_plain (op_move (v := (Value.int .i64 i_1)) (ht 3 rfl) ?_)
       exact Goes.same hi rfl
      replace hm := ck_some hm; obtain ⟨hc121, hm⟩ := hm
      refine Dw_op (VP O [(some b1, Obj.cells [(Value.int .i64 r_.slots), (Value.slice a_r__owners r_.owners.length c_r__owners), (Value.slice a_r__costs r_.costs.length c_r__costs)].toArray 25)] (rInt .i64) (r_.owners.getD i_1.toNat default)) (VP.stab _ _) (fun ρ118 w119 g hle hi ht => ?_) ?_
      ·
       obtain ⟨-, hst, -⟩ := hle
       replace f_r__owners := f_r__owners.step hst
       refine StepOp_plain (op_indexAddr (q := (rInt .i64)) ty22 ty3 (ht 38 rfl) (ht 39 rfl) f_r__owners rfl hc121.1 hc121.2 ?_)
       intro p122 f123
       exact Goes.same hi ⟨_, rfl, f123⟩
      refine Dw_op (VD O [(some b1, Obj.cells [(Value.int .i64 r_.slots), (Value.slice a_r__owners r_.owners.length c_r__owners), (Value.slice a_r__costs r_.costs.length c_r__costs)].toArray 25)] (vI .i64) (r_.owners.getD i_1.toNat default)) (VD.stab _ _) (fun ρ124 w125 g hle hi ht => ?_) ?_
      ·
       obtain ⟨-, hst, -⟩ := hle
       obtain ⟨p127, q128, f129⟩ := ht 40 rfl
       refine StepOp_plain (op_loadP ty3 q128 f129 rfl ?_)
       intro v130 h131
       obtain ⟨rfl, r_y132⟩ := un_int h131
       exact Goes.same hi (show Vr.vd (vI .i64) _ _ _ _ from ⟨rfl, r_y132⟩)
      refine Dw_eq (Value.bool (decide ((r_.owners.getD i_1.toNat default) < 0))) (fun ρ133 w134 g hle hi ht => ?_) ?_
      ·
       obtain ⟨-, hst, -⟩ := hle
       have h136 : Vr.vd (vI .i64) _ _ _ _ := ht 41 rfl
       obtain ⟨q137, r_y138⟩ := h136
       refine StepOp_plain (op_lss q137 rfl ?_)
       exact Goes.same hi rfl
      refine Dw_opB (decide ((r_.owners.getD i_1.toNat default) < 0)) (fun ρ139 w140 g hle hi ht => ?_) (fun hg142 => ?_) (fun hg142 => ?_)
      ·
       obtain ⟨-, hst, -⟩ := hle
       refine StepOp_plain (op_move (v := (Value.bool (decide ((r_.owners.getD i_1.toNat default) < 0)))) (ht 42 rfl) ?_)
       exact Goes.same hi rfl
      ·
       replace hm := bif_t hm hg142
       refine Dw_skip (fun _ _ _ ht => wanted_x rfl (ht 43 rfl) rfl) ?_
       refine Dw_skip (fun _ _ _ ht => wanted_x rfl (ht 43 rfl) rfl) ?_
       refine Dw_skip (fun _ _ _ ht => wanted_x rfl (ht 43 rfl) rfl) ?_
       refine Dw_skip (fun _ _ _ ht => wanted_x rfl (ht 43 rfl) rfl) ?_
       refine Dw_skip (fun _ _ _ ht => wanted_x rfl (ht 43 rfl) rfl) ?_
       refine Dw_skip (fun _ _ _ ht => wanted_x rfl (ht 43 rfl) rfl) ?_
       refine Dw_eq (Value.bool true) (fun ρ143 w144 g hle hi ht => ?_) ?_
       ·
        obtain ⟨-, hst, -⟩ := hle
        refine StepOp_plain (op_pick_t (v := (Value.bool true)) (ht 43 rfl) rfl ?_)
        exact Goes.same hi rfl
       refine Dw_eq (Value.bool true) (fun ρ146 w147 g hle hi ht => ?_) ?_
       ·
        obtain ⟨-, hst, -⟩ := hle
        refine StepOp_plain (op_move (v := (Value.bool true)) (ht 50 rfl) ?_)
        exact Goes.same hi rfl
       refine Dw_skip (fun _ _ _ ht => wanted_x rfl (ht 51 rfl) rfl) ?_
       refine Dw_skip (fun _ _ _ ht => wanted_x rfl (ht 51 rfl) rfl) ?_
       refine Dw_skip (fun _ _ _ ht => wanted_x rfl (ht 51 rfl) rfl) ?_
       refine Dw_skip (fun _ _ _ ht => wanted_x rfl (ht 51 rfl) rfl) ?_
       refine Dw_skip (fun _ _ _ ht => wanted_x rfl (ht 51 rfl) rfl) ?_
       refine Dw_skip (fun _ _ _ ht => wanted_x rfl (ht 51 rfl) rfl) ?_
       refine Dw_skip (fun _ _ _ ht => wanted_x rfl (ht 51 rfl) rfl) ?_
       refine Dw_skip (fun _ _ _ ht => wanted_x rfl (ht 51 rfl) rfl) ?_
       refine Dw_nil fun w153 g154 hl155 hi156 => ?_
       obtain ⟨-, hst157, -⟩ := hl155
       obtain ⟨hs159, p158⟩ := Step.nx hi156
       rintro _ rfl
       rintro _ rfl
       rintro _ rfl
       rintro _ rfl
       rintro _ rfl
       rintro _ rfl
       rintro _ rfl
       rintro _ rfl
       rintro _ rfl
       rintro _ rfl
       rintro _ rfl
       rintro _ rfl
       rintro _ rfl
       rintro _ rfl
       rintro _ rfl
       rintro _ rfl
       rintro _ rfl
       rintro _ rfl
       rintro v160 h161
       replace h161 : Vr.vd (vI .i64) _ _ _ _ := h161
       obtain ⟨rfl, r_y162⟩ := h161
       rintro _ ⟨p163, rfl, f164⟩
       rintro _ rfl
       rintro _ rfl
       rintro _ rfl
       have p165 : Step (ks [(some b1, Obj.cells [(Value.int .i64 r_.slots), (Value.slice a_r__owners r_.owners.length c_r__owners), (Value.slice a_r__costs r_.costs.length c_r__costs)].toArray 25)] O) w25 (ks [(some b1, Obj.cells [(Value.int .i64 r_.slots), (Value.slice a_r__owners r_.owners.length c_r__owners), (Value.slice a_r__costs r_.costs.length c_r__costs)].toArray 25)] O) w153 := hst157.trans p158
       replace f164 := f164.step p158; replace f_r__owners := f_r__owners.step p165; replace f_r__costs := f_r__costs.step p165; replace ch30 := ch30.trans p165; replace ch108 := ch108.trans p165; clear p165 hs26
       refine Rg_opx rfl (asB_ne rfl rfl) rfl ?_
       refine Rg_op rfl (op_pick_t (v := (Value.bool true)) rfl rfl ?_)
       refine Rg_nil ?_
       exact hK37 _ _ ⟨true, _, rfl, ⟨(by repeat (first | with_reducible exact Out.refl _ _ | refine Out.upd ?_ rfl | refine Out.updL ?_ rfl | refine Out.mix' ?_ rfl | exact Out.refl _ _)), rfl, rfl, trivial⟩, ch108, hs159, hm⟩
      ·
       replace hm := bif_f hm hg142
       refine Dw_eq (Value.pointer (some ⟨b1, 1, none⟩)) (fun ρ166 w167 g hle hi ht => ?_) ?_
       ·
        obtain ⟨-, hst, -⟩ := hle
        refine StepOp_g rfl (ht 43 rfl) (op_fieldAddr ty25 rfl ty22 (by decide) (ht 1 rfl) (rfl : _ = (⟨_, 1, none⟩ : Addr)) ?_)
        exact Goes.same hi rfl
       refine Dw_eq (Value.slice a_r__owners r_.owners.length c_r__owners) (fun ρ169 w170 g hle hi ht => ?_) ?_
       ·
        obtain ⟨-, hst, -⟩ := hle
        have hsn := (Step.nx hi).1
        refine StepOp_g rfl (ht 43 rfl) (op_load (cs := [(Value.int .i64 r_.slots), (Value.slice a_r__owners r_.owners.length c_r__owners), (Value.slice a_r__costs r_.costs.length c_r__costs)]) (i := 0) ty22 hsn (ht 44 rfl) rfl rfl ?_)
        exact Goes.same hi rfl
       refine Dw_eq (Value.int .i64 i_1) (fun ρ172 w173 g hle hi ht => ?_) ?_
       ·
        obtain ⟨-, hst, -⟩ := hle
        refine StepOp_g rfl (ht 43 rfl) (op_move (v := (Value.int .i64 i_1)) (ht 3 rfl) ?_)
        exact Goes.same hi rfl
       replace hm := ck_some hm; obtain ⟨hc178, hm⟩ := hm
       refine Dw_op (VP O [(some b1, Obj.cells [(Value.int .i64 r_.slots), (Value.slice a_r__owners r_.owners.length c_r__owners), (Value.slice a_r__costs r_.costs.length c_r__costs)].toArray 25)] (rInt .i64) (r_.owners.getD i_1.toNat default)) (VP.stab _ _) (fun ρ175 w176 g hle hi ht => ?_) ?_
       ·
        obtain ⟨-, hst, -⟩ := hle
        replace f_r__owners := f_r__owners.step hst
        refine StepOp_g rfl (ht 43 rfl) (op_indexAddr (q := (rInt .i64)) ty22 ty3 (ht 45 rfl) (ht 46 rfl) f_r__owners rfl hc178.1 hc178.2 ?_)
        intro p179 f180
        exact Goes.same hi ⟨_, rfl, f180⟩
       refine Dw_op (VD O [(some b1, Obj.cells [(Value.int .i64 r_.slots), (Value.slice a_r__owners r_.owners.length c_r__owners), (Value.slice a_r__costs r_.costs.length c_r__costs)].toArray 25)] (vI .i64) (r_.owners.getD i_1.toNat default)) (VD.stab _ _) (fun ρ181 w182 g hle hi ht => ?_) ?_
       ·
        obtain ⟨-, hst, -⟩ := hle
        obtain ⟨p184, q185, f186⟩ := ht 47 rfl
        refine StepOp_g rfl (ht 43 rfl) (op_loadP ty3 q185 f186 rfl ?_)
        intro v187 h188
        obtain ⟨rfl, r_y189⟩ := un_int h188
        exact Goes.same hi (show Vr.vd (vI .i64) _ _ _ _ from ⟨rfl, r_y189⟩)
       refine Dw_eq (Value.bool (decide (8 ≤ (r_.owners.getD i_1.toNat default)))) (fun ρ190 w191 g hle hi ht => ?_) ?_
       ·
        obtain ⟨-, hst, -⟩ := hle
        have h193 : Vr.vd (vI .i64) _ _ _ _ := ht 48 rfl
        obtain ⟨q194, r_y195⟩ := h193
        refine StepOp_g rfl (ht 43 rfl) (op_geq q194 rfl ?_)
        exact Goes.same hi rfl
       refine Dw_eq (Value.bool (decide (8 ≤ (r_.owners.getD i_1.toNat default)))) (fun ρ196 w197 g hle hi ht => ?_) ?_
       ·
        obtain ⟨-, hst, -⟩ := hle
        refine StepOp_plain (op_pick_f (v := (Value.bool (decide (8 ≤ (r_.owners.getD i_1.toNat default))))) (ht 43 rfl) (ht 49 rfl) ?_)
        exact Goes.same hi rfl
       refine Dw_opB (decide (8 ≤ (r_.owners.getD i_1.toNat default))) (fun ρ199 w200 g hle hi ht => ?_) (fun hg202 => ?_) (fun hg202 => ?_)
       ·
        obtain ⟨-, hst, -⟩ := hle
        refine StepOp_plain (op_move (v := (Value.bool (decide (8 ≤ (r_.owners.getD i_1.toNat default))))) (ht 50 rfl) ?_)
        exact Goes.same hi rfl
       ·
        replace hm := bif_t hm hg202
        refine Dw_skip (fun _ _ _ ht => wanted_x rfl (ht 51 rfl) rfl) ?_
        refine Dw_skip (fun _ _ _ ht => wanted_x rfl (ht 51 rfl) rfl) ?_
        refine Dw_skip (fun _ _ _ ht => wanted_x rfl (ht 51 rfl) rfl) ?_
        refine Dw_skip (fun _ _ _ ht => wanted_x rfl (ht 51 rfl) rfl) ?_
        refine Dw_skip (fun _ _ _ ht => wanted_x rfl (ht 51 rfl) rfl) ?_
        refine Dw_skip (fun _ _ _ ht => wanted_x rfl (ht 51 rfl) rfl) ?_
        refine Dw_skip (fun _ _ _ ht => wanted_x rfl (ht 51 rfl) rfl) ?_
        refine Dw_skip (fun _ _ _ ht => wanted_x rfl (ht 51 rfl) rfl) ?_
        refine Dw_nil fun w207 g208 hl209 hi210 => ?_
        obtain ⟨-, hst211, -⟩ := hl209
        obtain ⟨hs213, p212⟩ := Step.nx hi210
        rintro _ rfl
        rintro _ rfl
        rintro _ rfl
        rintro _ rfl
        rintro _ rfl
        rintro _ rfl
        rintro _ rfl
        rintro _ rfl
        rintro _ rfl
        rintro _ rfl
        rintro _ rfl
        rintro v214 h215
        replace h215 : Vr.vd (vI .i64) _ _ _ _ := h215
        obtain ⟨rfl, r_y216⟩ := h215
        rintro _ ⟨p217, rfl, f218⟩
        rintro _ rfl
        rintro _ rfl
        rintro _ rfl
        rintro _ rfl
        rintro _ rfl
        rintro v219 h220
        replace h220 : Vr.vd (vI .i64) _ _ _ _ := h220
        obtain ⟨rfl, r_y221⟩ := h220
        rintro _ ⟨p222, rfl, f223⟩
        rintro _ rfl
        rintro _ rfl
        rintro _ rfl
        have p224 : Step (ks [(some b1, Obj.cells [(Value.int .i64 r_.slots), (Value.slice a_r__owners r_.owners.length c_r__owners), (Value.slice a_r__costs r_.costs.length c_r__costs)].toArray 25)] O) w25 (ks [(some b1, Obj.cells [(Value.int .i64 r_.slots), (Value.slice a_r__owners r_.owners.length c_r__owners), (Value.slice a_r__costs r_.costs.length c_r__costs)].toArray 25)] O) w207 := hst211.trans p212
        replace f218 := f218.step p212; replace f223 := f223.step p212; replace f_r__owners := f_r__owners.step p224; replace f_r__costs := f_r__costs.step p224; replace ch30 := ch30.trans p224; replace ch108 := ch108.trans p224; clear p224 hs26
        refine Rg_opx rfl (asB_ne rfl rfl) rfl ?_
        refine Rg_op rfl (op_pick_t (v := (Value.bool true)) rfl rfl ?_)
        refine Rg_nil ?_
        exact hK37 _ _ ⟨true, _, rfl, ⟨(by repeat (first | with_reducible exact Out.refl _ _ | refine Out.upd ?_ rfl | refine Out.updL ?_ rfl | refine Out.mix' ?_ rfl | exact Out.refl _ _)), rfl, rfl, trivial⟩, ch108, hs213, hm⟩
       ·
        replace hm := bif_f hm hg202
        refine Dw_eq (Value.pointer (some ⟨b1, 2, none⟩)) (fun ρ225 w226 g hle hi ht => ?_) ?_
        ·
         obtain ⟨-, hst, -⟩ := hle
         refine StepOp_g rfl (ht 51 rfl) (op_fieldAddr ty25 rfl ty23 (by decide) (ht 1 rfl) (rfl : _ = (⟨_, 2, none⟩ : Addr)) ?_)
         exact Goes.same hi rfl
        refine Dw_eq (Value.slice a_r__costs r_.costs.length c_r__costs) (fun ρ228 w229 g hle hi ht => ?_) ?_
        ·
         obtain ⟨-, hst, -⟩ := hle
         have hsn := (Step.nx hi).1
         refine StepOp_g rfl (ht 51 rfl) (op_load (cs := [(Value.int .i64 r_.slots), (Value.slice a_r__owners r_.owners.length c_r__owners), (Value.slice a_r__costs r_.costs.length c_r__costs)]) (i := 0) ty23 hsn (ht 52 rfl) rfl rfl ?_)
         exact Goes.same hi rfl
        refine Dw_eq (Value.int .i64 i_1) (fun ρ231 w232 g hle hi ht => ?_) ?_
        ·
         obtain ⟨-, hst, -⟩ := hle
         refine StepOp_g rfl (ht 51 rfl) (op_move (v := (Value.int .i64 i_1)) (ht 3 rfl) ?_)
         exact Goes.same hi rfl
        replace hm := ck_some hm; obtain ⟨hc237, hm⟩ := hm
        refine Dw_op (VP O [(some b1, Obj.cells [(Value.int .i64 r_.slots), (Value.slice a_r__owners r_.owners.length c_r__owners), (Value.slice a_r__costs r_.costs.length c_r__costs)].toArray 25)] (rSl (rInt .i64)) (r_.costs.getD i_1.toNat default)) (VP.stab _ _) (fun ρ234 w235 g hle hi ht => ?_) ?_
        ·
         obtain ⟨-, hst, -⟩ := hle
         replace f_r__costs := f_r__costs.step hst
         refine StepOp_g rfl (ht 51 rfl) (op_indexAddr (q := (rSl (rInt .i64))) ty23 ty22 (ht 53 rfl) (ht 54 rfl) f_r__costs rfl hc237.1 hc237.2 ?_)
         intro p238 f239
         exact Goes.same hi ⟨_, rfl, f239⟩
        refine Dw_op (VD O [(some b1, Obj.cells [(Value.int .i64 r_.slots), (Value.slice a_r__owners r_.owners.length c_r__owners), (Value.slice a_r__costs r_.costs.length c_r__costs)].toArray 25)] (vC (rSl (rInt .i64))) (r_.costs.getD i_1.toNat default)) (VD.stab _ _) (fun ρ240 w241 g hle hi ht => ?_) ?_
        ·
         obtain ⟨-, hst, -⟩ := hle
         obtain ⟨p243, q244, f245⟩ := ht 55 rfl
         refine StepOp_g rfl (ht 51 rfl) (op_loadP ty22 q244 f245 rfl ?_)
         intro v246 h247
         obtain ⟨a_y248, c_y248, rfl, f_y248⟩ := un_sl h247
         exact Goes.same hi (show Vr.vd (vC (rSl (rInt .i64))) _ _ _ _ from (mkC (mk_sl f_y248)))
        refine Dw_op (VD O [(some b1, Obj.cells [(Value.int .i64 r_.slots), (Value.slice a_r__owners r_.owners.length c_r__owners), (Value.slice a_r__costs r_.costs.length c_r__costs)].toArray 25)] (vI .i64) ((r_.costs.getD i_1.toNat default).length : Int)) (VD.stab _ _) (fun ρ249 w250 g hle hi ht => ?_) ?_
        ·
         obtain ⟨-, hst, -⟩ := hle
         have h252 : Vr.vd (vC (rSl (rInt .i64))) _ _ _ _ := ht 56 rfl
         obtain ⟨a_y254, c_y254, q253, f_y254⟩ := un_sl h252
         refine StepOp_g rfl (ht 51 rfl) (op_len Try.underlying22 q253 ?_)
         exact Goes.same hi (show Vr.vd (vI .i64) _ _ _ _ from ⟨rfl, (inK_len f_y254)⟩)
        refine Dw_eq (Value.pointer (some ⟨b1, 0, none⟩)) (fun ρ255 w256 g hle hi ht => ?_) ?_
        ·
         obtain ⟨-, hst, -⟩ := hle
         refine StepOp_g rfl (ht 51 rfl) (op_fieldAddr ty25 rfl ty3 (by decide) (ht 1 rfl) (rfl : _ = (⟨_, 0, none⟩ : Addr)) ?_)
         exact Goes.same hi rfl
        refine Dw_eq (Value.int .i64 r_.slots) (fun ρ258 w259 g hle hi ht => ?_) ?_
        ·
         obtain ⟨-, hst, -⟩ := hle
         have hsn := (Step.nx hi).1
         refine StepOp_g rfl (ht 51 rfl) (op_load (cs := [(Value.int .i64 r_.slots), (Value.slice a_r__owners r_.owners.length c_r__owners), (Value.slice a_r__costs r_.costs.length c_r__costs)]) (i := 0) ty3 hsn (ht 58 rfl) rfl rfl ?_)
         exact Goes.same hi rfl
        refine Dw_nil fun w265 g266 hl267 hi268 => ?_
        obtain ⟨-, hst269, -⟩ := hl267
        obtain ⟨hs271, p270⟩ := Step.nx hi268
        rintro _ rfl
        rintro _ rfl
        rintro v272 h273
        replace h273 : Vr.vd (vI .i64) _ _ _ _ := h273
        obtain ⟨rfl, r_y274⟩ := h273
        rintro v275 h276
        replace h276 : Vr.vd (vC (rSl (rInt .i64))) _ _ _ _ := h276
        obtain ⟨a_y277, c_y277, rfl, f_y277⟩ := un_sl h276
        rintro _ ⟨p278, rfl, f279⟩
        rintro _ rfl
        rintro _ rfl
        rintro _ rfl
        rintro _ rfl
        rintro _ rfl
        rintro _ rfl
        rintro v280 h281
        replace h281 : Vr.vd (vI .i64) _ _ _ _ := h281
        obtain ⟨rfl, r_y282⟩ := h281
        rintro _ ⟨p283, rfl, f284⟩
        rintro _ rfl
        rintro _ rfl
        rintro _ rfl
        rintro _ rfl
        rintro _ rfl
        rintro v285 h286
        replace h286 : Vr.vd (vI .i64) _ _ _ _ := h286
        obtain ⟨rfl, r_y287⟩ := h286
        rintro _ ⟨p288, rfl, f289⟩
        rintro _ rfl
        rintro _ rfl
        rintro _ rfl
        have p290 : Step (ks [(some b1, Obj.cells [(Value.int .i64 r_.slots), (Value.slice a_r__owners r_.owners.length c_r__owners), (Value.slice a_r__costs r_.costs.length c_r__costs)].toArray 25)] O) w25 (ks [(some b1, Obj.cells [(Value.int .i64 r_.slots), (Value.slice a_r__owners r_.owners.length c_r__owners), (Value.slice a_r__costs r_.costs.length c_r__costs)].toArray 25)] O) w265 := hst269.trans p270
        replace f_y277 := f_y277.step p270; replace f279 := f279.step p270; replace f284 := f284.step p270; replace f289 := f289.step p270; replace f_r__owners := f_r__owners.step p290; replace f_r__costs := f_r__costs.step p290; replace ch30 := ch30.trans p290; replace ch108 := ch108.trans p290; clear p290 hs26
        refine Rg_opg rfl rfl rfl (op_neq rfl rfl ?_)
        refine Rg_op rfl (op_pick_f (v := (Value.bool (decide (((r_.costs.getD i_1.toNat default).length : Int) ≠ r_.slots)))) rfl rfl ?_)
        refine Rg_nil ?_
        exact hK37 _ _ ⟨(decide (((r_.costs.getD i_1.toNat default).length : Int) ≠ r_.slots)), _, rfl, ⟨(by repeat (first | with_reducible exact Out.refl _ _ | refine Out.upd ?_ rfl | refine Out.updL ?_ rfl | refine Out.mix' ?_ rfl | exact Out.refl _ _)), rfl, rfl, trivial⟩, ch108, hs271, hm⟩
    ·
     replace hm := bif_f hm hc32
     refine Wp_exit ?_
     refine Wp_seq ?_
     obtain ⟨hs291, p292⟩ := hs26.sub (bs' := []) (.cons _ List.Sublist.slnil)
     clear f_r__owners f_r__costs
     replace ch30 := ch30.trans p292; clear p292 hs26
     refine Wp_region ?_
     refine Rg_op rfl (op_assign (v := (Value.bool true)) rfl ?_)
     refine Rg_nil ?_
     refine Wp_ret ?_
     have hz := step_all hs291
     refine ⟨_, (show Closes [] _ _ from rfl), [(Value.bool true)], ⟨rfl, trivial⟩, hs291.ext, ?_⟩
     exact Vr.eq (a := vB) (x := true) rfl (Option.some.inj hm)
 ·
  intro K10 hK10
  have ch293 := Step.refl (ks [(some b1, Obj.cells [(Value.int .i64 r_.slots), (Value.slice a_r__owners r_.owners.length c_r__owners), (Value.slice a_r__costs r_.costs.length c_r__costs)].toArray 25)] O) w2
  refine Wp_region ?_
  refine Rg_op rfl (op_fieldAddr ty25 rfl ty3 (by decide) rfl (rfl : _ = (⟨_, 0, none⟩ : Addr)) ?_)
  refine Rg_op rfl (op_load (cs := [(Value.int .i64 r_.slots), (Value.slice a_r__owners r_.owners.length c_r__owners), (Value.slice a_r__costs r_.costs.length c_r__costs)]) (i := 0) ty3 hs4 rfl rfl rfl ?_)
  refine Rg_op rfl (op_lss rfl rfl ?_)
  refine Rg_op rfl (op_move (v := (Value.bool (decide (r_.slots < 1)))) rfl ?_)
  refine Rg_case (fun hg294 => ?_) (fun hg294 => ?_)
  ·
   replace hm := bif_t hm hg294
   iterate 3 refine Rg_opx rfl (asB_ne rfl rfl) rfl ?_
   refine Rg_op rfl (op_pick_t (v := (Value.bool true)) rfl rfl ?_)
   refine Rg_op rfl (op_move (v := (Value.bool true)) rfl ?_)
   iterate 6 refine Rg_opx rfl (asB_ne rfl rfl) rfl ?_
   refine Rg_op rfl (op_pick_t (v := (Value.bool true)) rfl rfl ?_)
   refine Rg_op rfl (op_move (v := (Value.bool true)) rfl ?_)
   iterate 7 refine Rg_opx rfl (asB_ne rfl rfl) rfl ?_
   refine Rg_op rfl (op_pick_t (v := (Value.bool true)) rfl rfl ?_)
   refine Rg_nil ?_
   exact hK10 _ _ ⟨true, _, rfl, ⟨(by repeat (first | with_reducible exact Out.refl _ _ | refine Out.upd ?_ rfl | refine Out.updL ?_ rfl | refine Out.mix' ?_ rfl | exact Out.refl _ _)), rfl, rfl, trivial⟩, ch293, hs4, hm⟩
  ·
   replace hm := bif_f hm hg294
   refine Rg_opg rfl rfl rfl (op_fieldAddr ty25 rfl ty3 (by decide) rfl (rfl : _ = (⟨_, 0, none⟩ : Addr)) ?_)
   refine Rg_opg rfl rfl rfl (op_load (cs := [(Value.int .i64 r_.slots), (Value.slice a_r__owners r_.owners.length c_r__owners), (Value.slice a_r__costs r_.costs.length c_r__costs)]) (i := 0) ty3 hs4 rfl rfl rfl ?_)
   refine Rg_opg rfl rfl rfl (op_gtr rfl rfl ?_)
   refine Rg_op rfl (op_pick_f (v := (Value.bool (decide (8 < r_.slots)))) rfl rfl ?_)
   refine Rg_op rfl (op_move (v := (Value.bool (decide (8 < r_.slots)))) rfl ?_)
   refine Rg_case (fun hg295 => ?_) (fun hg295 => ?_)
   ·
    replace hm := bif_t hm hg295
    iterate 6 refine Rg_opx rfl (asB_ne rfl rfl) rfl ?_
    refine Rg_op rfl (op_pick_t (v := (Value.bool true)) rfl rfl ?_)
    refine Rg_op rfl (op_move (v := (Value.bool true)) rfl ?_)
    iterate 7 refine Rg_opx rfl (asB_ne rfl rfl) rfl ?_
    refine Rg_op rfl (op_pick_t (v := (Value.bool true)) rfl rfl ?_)
    refine Rg_nil ?_
    exact hK10 _ _ ⟨true, _, rfl, ⟨(by repeat (first | with_reducible exact Out.refl _ _ | refine Out.upd ?_ rfl | refine Out.updL ?_ rfl | refine Out.mix' ?_ rfl | exact Out.refl _ _)), rfl, rfl, trivial⟩, ch293, hs4, hm⟩
   ·
    replace hm := bif_f hm hg295
    refine Rg_opg rfl rfl rfl (op_fieldAddr ty25 rfl ty22 (by decide) rfl (rfl : _ = (⟨_, 1, none⟩ : Addr)) ?_)
    refine Rg_opg rfl rfl rfl (op_load (cs := [(Value.int .i64 r_.slots), (Value.slice a_r__owners r_.owners.length c_r__owners), (Value.slice a_r__costs r_.costs.length c_r__costs)]) (i := 0) ty22 hs4 rfl rfl rfl ?_)
    refine Rg_opg rfl rfl rfl (op_len Try.underlying22 rfl ?_)
    have rl296 := inK_len f_r__owners
    refine Rg_opg rfl rfl rfl (op_fieldAddr ty25 rfl ty3 (by decide) rfl (rfl : _ = (⟨_, 0, none⟩ : Addr)) ?_)
    refine Rg_opg rfl rfl rfl (op_load (cs := [(Value.int .i64 r_.slots), (Value.slice a_r__owners r_.owners.length c_r__owners), (Value.slice a_r__costs r_.costs.length c_r__costs)]) (i := 0) ty3 hs4 rfl rfl rfl ?_)
    refine Rg_opg rfl rfl rfl (op_gtr rfl rfl ?_)
    refine Rg_op rfl (op_pick_f (v := (Value.bool (decide (r_.slots < (r_.owners.length : Int))))) rfl rfl ?_)
    refine Rg_op rfl (op_move (v := (Value.bool (decide (r_.slots < (r_.owners.length : Int))))) rfl ?_)
    refine Rg_case (fun hg297 => ?_) (fun hg297 => ?_)
    ·
     replace hm := bif_t hm hg297
     iterate 7 refine Rg_opx rfl (asB_ne rfl rfl) rfl ?_
     refine Rg_op rfl (op_pick_t (v := (Value.bool true)) rfl rfl ?_)
     refine Rg_nil ?_
     exact hK10 _ _ ⟨true, _, rfl, ⟨(by repeat (first | with_reducible exact Out.refl _ _ | refine Out.upd ?_ rfl | refine Out.updL ?_ rfl | refine Out.mix' ?_ rfl | exact Out.refl _ _)), rfl, rfl, trivial⟩, ch293, hs4, hm⟩
    ·
     replace hm := bif_f hm hg297
     refine Rg_opg rfl rfl rfl (op_fieldAddr ty25 rfl ty23 (by decide) rfl (rfl : _ = (⟨_, 2, none⟩ : Addr)) ?_)
     refine Rg_opg rfl rfl rfl (op_load (cs := [(Value.int .i64 r_.slots), (Value.slice a_r__owners r_.owners.length c_r__owners), (Value.slice a_r__costs r_.costs.length c_r__costs)]) (i := 0) ty23 hs4 rfl rfl rfl ?_)
     refine Rg_opg rfl rfl rfl (op_len Try.underlying23 rfl ?_)
     have rl298 := inK_len f_r__costs
     refine Rg_opg rfl rfl rfl (op_fieldAddr ty25 rfl ty22 (by decide) rfl (rfl : _ = (⟨_, 1, none⟩ : Addr)) ?_)
     refine Rg_opg rfl rfl rfl (op_load (cs := [(Value.int .i64 r_.slots), (Value.slice a_r__owners r_.owners.length c_r__owners), (Value.slice a_r__costs r_.costs.length c_r__costs)]) (i := 0) ty22 hs4 rfl rfl rfl ?_)
     refine Rg_opg rfl rfl rfl (op_len Try.underlying22 rfl ?_)
     have rl299 := inK_len f_r__owners
     refine Rg_opg rfl rfl rfl (op_neq rfl rfl ?_)
     refine Rg_op rfl (op_pick_f (v := (Value.bool (decide ((r_.costs.length : Int) ≠ (r_.owners.length : Int))))) rfl rfl ?_)
     refine Rg_nil ?_
     exact hK10 _ _ ⟨(decide ((r_.costs.length : Int) ≠ (r_.owners.length : Int))), _, rfl, ⟨(by repeat (first | with_reducible exact Out.refl _ _ | refine Out.upd ?_ rfl | refine Out.updL ?_ rfl | refine Out.mix' ?_ rfl | exact Out.refl _ _)), rfl, rfl, trivial⟩, ch293, hs4, hm⟩

end Go.Fx



set_option linter.unusedVariables false
set_option linter.unusedSimpArgs false
set_option maxRecDepth 100000
set_option maxHeartbeats 0
namespace Go.Fx
open Go Go.RowKit Go.Proofs
def m29_overflightref37_Few_B0 (r_ : XRound) (sf21 : Int → Option Bool) (i_1 : Int) : Option Bool :=
 bif (decide (i_1 < (r_.costs.length : Int))) then
  ck ((0 : Int) ≤ i_1 ∧ i_1 < (r_.costs.length : Int)) <|
  bif (decide (20 < ((r_.costs.getD i_1.toNat default).length : Int))) then
   some false
  else
   sf21 (IntKind.wrap .i64 (i_1 + 1))
 else
  (m54_overflightref37_Valid r_).bind fun valid_1 =>
  bif (!valid_1) then
   some true
  else
   some (decide ((r_.owners.length : Int) ≤ 5))

def m29_overflightref37_Few (r_ : XRound) : Option Bool :=
 jn (fun (v_1 : Bool) =>
  bif v_1 then
   some false
  else
   loop1 (m29_overflightref37_Few_B0 r_) (((r_.costs.length : Int) - 0).toNat + 1) 0)
 (fun k8 =>
  bif (decide (12 < (r_.owners.length : Int))) then
   k8 true
  else
   k8 (decide (12 < (r_.costs.length : Int))))

theorem c29_overflightref37_Few {w : World} {O : List Nat} {r_ : XRound} {a_r__owners : Option Addr} {c_r__owners : Nat} {a_r__costs : Option Addr} {c_r__costs : Nat} (hO : ∀ k ∈ O, k < w.heap.size) (r_r__slots : InK .i64 r_.slots) (f_r__owners : SlR (rInt .i64) w O a_r__owners c_r__owners r_.owners) (f_r__costs : SlR (rSl (rInt .i64)) w O a_r__costs c_r__costs r_.costs) {x : Bool} (hm : m29_overflightref37_Few r_ = some x) :
  Ok Try.prog 29 [(Value.agg [(Value.int .i64 r_.slots), (Value.slice a_r__owners r_.owners.length c_r__owners), (Value.slice a_r__costs r_.costs.length c_r__costs)].toArray)] w O vB x := by
 unfold m29_overflightref37_Few at hm
 refine Fn_of_Wp (n := 37) (xs := [.tmp 2]) Try.func29 rfl Try.ntmps29 Try.results29 rfl ?_
 have hs := St.start hO
 refine Wp_seq ?_
 refine Wp_region ?_
 refine Rg_op rfl (op_box (cs := [(Value.int .i64 r_.slots), (Value.slice a_r__owners r_.owners.length c_r__owners), (Value.slice a_r__costs r_.costs.length c_r__costs)]) hs rfl rfl ?_)
 intro b1 w2 _ p3 hs4
 replace f_r__owners := f_r__owners.step p3; replace f_r__costs := f_r__costs.step p3; clear p3
 refine Rg_op rfl (op_assign (v := (Value.bool false)) rfl ?_)
 refine Rg_nil ?_
 refine Wp_seq ?_
 refine Wp_reset [] [(1, (Value.pointer (some ⟨b1, 0, none⟩)))] rfl ⟨rfl, trivial⟩ fun ξ6 => ?_
 replace hm := jn_elim hm; obtain ⟨k8, hk9, hm⟩ := hm
 refine Wp_seqJ [4, 5, 6, 7, 8, 9, 10, 11, 12, 13] (fun fr w' => ∃ (v_1 : Bool) (Ebs : Ents), Ebs = [(some b1, Obj.cells [(Value.int .i64 r_.slots), (Value.slice a_r__owners r_.owners.length c_r__owners), (Value.slice a_r__costs r_.costs.length c_r__costs)].toArray 25)] ∧ fr [] [(13, (Value.bool v_1))] ∧ Step (ks [(some b1, Obj.cells [(Value.int .i64 r_.slots), (Value.slice a_r__owners r_.owners.length c_r__owners), (Value.slice a_r__costs r_.costs.length c_r__costs)].toArray 25)] O) w2 (ks Ebs O) w' ∧ St ⟨w, [], []⟩ O w' Ebs ∧ k8 v_1 = some x) ?_ ?_
 ·
  rintro ρ15 w11 ⟨v_1, Ebs, hEbs, hfr14, hst13, hs12, hm⟩
  replace hm := jnE1 hk9 hm
  subst hEbs; rw [hfr14.eq]; clear hfr14
  replace f_r__owners := f_r__owners.step hst13; replace f_r__costs := f_r__costs.step hst13; clear hst13 hs4
  refine Wp_cond rfl (fun hc16 => ?_) (fun hc16 => ?_)
  ·
   replace hm := bif_t hm hc16
   refine Wp_seq ?_
   obtain ⟨hs17, p18⟩ := hs12.sub (bs' := []) (.cons _ List.Sublist.slnil)
   clear f_r__owners f_r__costs
   clear p18 hs12
   refine Wp_region ?_
   refine Rg_op rfl (op_assign (v := (Value.bool false)) rfl ?_)
   refine Rg_nil ?_
   refine Wp_ret ?_
   have hz := step_all hs17
   refine ⟨_, (show Closes [] _ _ from rfl), [(Value.bool false)], ⟨rfl, trivial⟩, hs17.ext, ?_⟩
   exact Vr.eq (a := vB) (x := false) rfl (Option.some.inj hm)
  ·
   replace hm := bif_f hm hc16
   refine Wp_skip ?_
   refine Wp_seq ?_
   refine Wp_seq ?_
   refine Wp_region ?_
   refine Rg_op rfl (op_assign (v := (Value.int .i64 0)) rfl ?_)
   refine Rg_nil ?_
   refine Wp_block ?_
   refine Wp_reset [] [(1, (Value.pointer (some ⟨b1, 0, none⟩))), (3, (Value.int .i64 0))] rfl ⟨rfl, rfl, trivial⟩ fun ξ20 => ?_
   refine Wp_loopM [2, 3, 14, 15, 16, 17, 18, 19, 20, 21, 22, 23, 24, 25, 26, 27] (fun m fr w' => ∃ (i_1 : Int) (Ebs : Ents), Ebs = [(some b1, Obj.cells [(Value.int .i64 r_.slots), (Value.slice a_r__owners r_.owners.length c_r__owners), (Value.slice a_r__costs r_.costs.length c_r__costs)].toArray 25)] ∧ fr [] [(3, (Value.int .i64 i_1))] ∧ Step (ks [(some b1, Obj.cells [(Value.int .i64 r_.slots), (Value.slice a_r__owners r_.owners.length c_r__owners), (Value.slice a_r__costs r_.costs.length c_r__costs)].toArray 25)] O) w11 (ks Ebs O) w' ∧ St ⟨w, [], []⟩ O w' Ebs ∧ InK .i64 i_1 ∧ loop1 (m29_overflightref37_Few_B0 r_) m i_1 = some x) (((r_.costs.length : Int) - 0).toNat + 1) ⟨0, _, rfl, ⟨Out.refl _ _, rfl, rfl, trivial⟩, Step.refl _ _, hs12, (show InK .i64 0 from by decide), hm⟩ ?_ ?_
   · rintro _ _ ⟨_, _, _, _, _, _, _, hm⟩; exact loop1_z hm
   ·
    rintro m24 K23 hK23 ρ29 w25 ⟨i_1, Ebs, hEbs, hfr28, hst27, hs26, r_y19, hm⟩
    obtain ⟨sf21, hsf22, hm⟩ := loop1_s hm; unfold m29_overflightref37_Few_B0 at hm
    subst hEbs; rw [hfr28.eq]; clear hfr28
    replace f_r__owners := f_r__owners.step hst27; replace f_r__costs := f_r__costs.step hst27
    have ch30 := hst27
    refine Wp_seq ?_
    refine Wp_seq ?_
    refine Wp_region ?_
    refine Rg_op rfl (op_move (v := (Value.int .i64 i_1)) rfl ?_)
    refine Rg_op rfl (op_fieldAddr ty25 rfl ty23 (by decide) rfl (rfl : _ = (⟨_, 2, none⟩ : Addr)) ?_)
    refine Rg_op rfl (op_load (cs := [(Value.int .i64 r_.slots), (Value.slice a_r__owners r_.owners.length c_r__owners), (Value.slice a_r__costs r_.costs.length c_r__costs)]) (i := 0) ty23 hs26 rfl rfl rfl ?_)
    refine Rg_op rfl (op_len Try.underlying23 rfl ?_)
    have rl31 := inK_len f_r__costs
    refine Rg_op rfl (op_lss rfl rfl ?_)
    refine Rg_nil ?_
    refine Wp_cond rfl (fun hc32 => ?_) (fun hc32 => ?_)
    ·
     replace hm := bif_t hm hc32
     refine Wp_skip ?_
     refine Wp_seq ?_
     refine Wp_block ?_
     refine Wp_seq ?_
     refine Wp_region ?_
     refine Rg_op rfl (op_fieldAddr ty25 rfl ty23 (by decide) rfl (rfl : _ = (⟨_, 2, none⟩ : Addr)) ?_)
     refine Rg_op rfl (op_load (cs := [(Value.int .i64 r_.slots), (Value.slice a_r__owners r_.owners.length c_r__owners), (Value.slice a_r__costs r_.costs.length c_r__costs)]) (i := 0) ty23 hs26 rfl rfl rfl ?_)
     refine Rg_op rfl (op_move (v := (Value.int .i64 i_1)) rfl ?_)
     replace hm := ck_some hm; obtain ⟨hc33, hm⟩ := hm
     refine Rg_op rfl (op_indexAddr (q := (rSl (rInt .i64))) ty23 ty22 rfl rfl f_r__costs rfl hc33.1 hc33.2 ?_)
     intro p34 f35
     refine Rg_op rfl (op_loadP ty22 rfl f35 rfl ?_)
     intro v36 h37
     obtain ⟨a_y38, c_y38, rfl, f_y38⟩ := un_sl h37
     refine Rg_op rfl (op_len Try.underlying22 rfl ?_)
     have rl39 := inK_len f_y38
     refine Rg_op rfl (op_gtr rfl rfl ?_)
     refine Rg_nil ?_
     refine Wp_cond rfl (fun hc40 => ?_) (fun hc40 => ?_)
     ·
      replace hm := bif_t hm hc40
      refine Wp_seq ?_
      clear f35 f_y38
      refine Wp_region ?_
      refine Rg_op rfl (op_assign (v := (Value.bool false)) rfl ?_)
      refine Rg_nil ?_
      refine Wp_ret ?_
      have hz := step_all hs26
      replace f_r__owners := f_r__owners.step hz; replace f_r__costs := f_r__costs.step hz
      refine ⟨_, (show Closes [] _ _ from rfl), [(Value.bool false)], ⟨rfl, trivial⟩, hs26.ext, ?_⟩
      exact Vr.eq (a := vB) (x := false) rfl (Option.some.inj hm)
     ·
      replace hm := bif_f hm hc40
      refine Wp_skip ?_
      clear f35 f_y38
      refine Wp_region ?_
      refine Rg_op rfl (op_move (v := (Value.int .i64 i_1)) rfl ?_)
      refine Rg_op rfl (op_addw rfl rfl ?_)
      refine Rg_op rfl (op_assign (v := (Value.int .i64 (IntKind.wrap .i64 (i_1 + 1)))) rfl ?_)
      refine Rg_nil ?_
      exact hK23 _ _ ⟨(IntKind.wrap .i64 (i_1 + 1)), _, rfl, ⟨(by repeat (first | with_reducible exact Out.refl _ _ | refine Out.upd ?_ rfl | refine Out.updL ?_ rfl | refine Out.mix' ?_ rfl | exact Out.refl _ _)), rfl, rfl, trivial⟩, ch30, hs26, (inK_wrap .i64 _), jnE1 hsf22 hm⟩
    ·
     replace hm := bif_f hm hc32
     refine Wp_exit ?_
     refine Wp_seq ?_
     refine Wp_region ?_
     refine Rg_op rfl (op_loadA (cs := [(Value.int .i64 r_.slots), (Value.slice a_r__owners r_.owners.length c_r__owners), (Value.slice a_r__costs r_.costs.length c_r__costs)]) (vs := [(Value.int .i64 r_.slots), (Value.slice a_r__owners r_.owners.length c_r__owners), (Value.slice a_r__costs r_.costs.length c_r__costs)]) (i := 0) ty25 hs26 rfl rfl rfl rfl ?_)
     replace hm := bd hm; obtain ⟨valid_1, hv41, hm⟩ := hm
     refine Rg_op rfl (op_call Try.call54 (c54_overflightref37_Valid (r_ := r_) hs26.ltw r_r__slots f_r__owners f_r__costs hv41) rfl ?_)
     rintro v42 w43 ⟨hx44, h45⟩
     have hs46 := hs26.call hx44
     have p47 := Step.ext (O := ks [(some b1, Obj.cells [(Value.int .i64 r_.slots), (Value.slice a_r__owners r_.owners.length c_r__owners), (Value.slice a_r__costs r_.costs.length c_r__costs)].toArray 25)] O) hx44
     clear hx44
     replace f_r__owners := f_r__owners.step p47; replace f_r__costs := f_r__costs.step p47; replace ch30 := ch30.trans p47; clear p47 hs26
     obtain rfl := h45
     refine Rg_op rfl (op_not rfl ?_)
     refine Rg_op rfl (op_move (v := (Value.bool (!valid_1))) rfl ?_)
     refine Rg_case (fun hg49 => ?_) (fun hg49 => ?_)
     ·
      replace hm := bif_t hm hg49
      iterate 4 refine Rg_opx rfl (asB_ne rfl rfl) rfl ?_
      refine Rg_op rfl (op_pick_t (v := (Value.bool true)) rfl rfl ?_)
      refine Rg_op rfl (op_assign (v := (Value.bool true)) rfl ?_)
      refine Rg_nil ?_
      refine Wp_ret ?_
      have hz := step_all hs46
      replace f_r__owners := f_r__owners.step hz; replace f_r__costs := f_r__costs.step hz
      refine ⟨_, (show Closes [] _ _ from rfl), [(Value.bool true)], ⟨rfl, trivial⟩, hs46.ext, ?_⟩
      exact Vr.eq (a := vB) (x := true) rfl (Option.some.inj hm)
     ·
      replace hm := bif_f hm hg49
      refine Rg_opg rfl rfl rfl (op_fieldAddr ty25 rfl ty22 (by decide) rfl (rfl : _ = (⟨_, 1, none⟩ : Addr)) ?_)
      refine Rg_opg rfl rfl rfl (op_load (cs := [(Value.int .i64 r_.slots), (Value.slice a_r__owners r_.owners.length c_r__owners), (Value.slice a_r__costs r_.costs.length c_r__costs)]) (i := 0) ty22 hs46 rfl rfl rfl ?_)
      refine Rg_opg rfl rfl rfl (op_len Try.underlying22 rfl ?_)
      have rl50 := inK_len f_r__owners
      refine Rg_opg rfl rfl rfl (op_leq rfl rfl ?_)
      refine Rg_op rfl (op_pick_f (v := (Value.bool (decide ((r_.owners.length : Int) ≤ 5)))) rfl rfl ?_)
      refine Rg_op rfl (op_assign (v := (Value.bool (decide ((r_.owners.length : Int) ≤ 5)))) rfl ?_)
      refine Rg_nil ?_
      refine Wp_ret ?_
      have hz := step_all hs46
      replace f_r__owners := f_r__owners.step hz; replace f_r__costs := f_r__costs.step hz
      refine ⟨_, (show Closes [] _ _ from rfl), [(Value.bool (decide ((r_.owners.length : Int) ≤ 5)))], ⟨rfl, trivial⟩, hs46.ext, ?_⟩
      exact Vr.eq (a := vB) (x := (decide ((r_.owners.length : Int) ≤ 5))) rfl (Option.some.inj hm)
 ·
  intro K10 hK10
  have ch51 := Step.refl (ks [(some b1, Obj.cells [(Value.int .i64 r_.slots), (Value.slice a_r__owners r_.owners.length c_r__owners), (Value.slice a_r__costs r_.costs.length c_r__costs)].toArray 25)] O) w2
  refine Wp_region ?_
  refine Rg_op rfl (op_fieldAddr ty25 rfl ty22 (by decide) rfl (rfl : _ = (⟨_, 1, none⟩ : Addr)) ?_)
  refine Rg_op rfl (op_load (cs := [(Value.int .i64 r_.slots), (Value.slice a_r__owners r_.owners.length c_r__owners), (Value.slice a_r__costs r_.costs.length c_r__costs)]) (i := 0) ty22 hs4 rfl rfl rfl ?_)
  refine Rg_op rfl (op_len Try.underlying22 rfl ?_)
  have rl52 := inK_len f_r__owners
  refine Rg_op rfl (op_gtr rfl rfl ?_)
  refine Rg_op rfl (op_move (v := (Value.bool (decide (12 < (r_.owners.length : Int))))) rfl ?_)
  refine Rg_case (fun hg53 => ?_) (fun hg53 => ?_)
  ·
   replace hm := bif_t hm hg53
   iterate 4 refine Rg_opx rfl (asB_ne rfl rfl) rfl ?_
   refine Rg_op rfl (op_pick_t (v := (Value.bool true)) rfl rfl ?_)
   refine Rg_nil ?_
   exact hK10 _ _ ⟨true, _, rfl, ⟨(by repeat (first | with_reducible exact Out.refl _ _ | refine Out.upd ?_ rfl | refine Out.updL ?_ rfl | refine Out.mix' ?_ rfl | exact Out.refl _ _)), rfl, rfl, trivial⟩, ch51, hs4, hm⟩
  ·
   replace hm := bif_f hm hg53
   refine Rg_opg rfl rfl rfl (op_fieldAddr ty25 rfl ty23 (by decide) rfl (rfl : _ = (⟨_, 2, none⟩ : Addr)) ?_)
   refine Rg_opg rfl rfl rfl (op_load (cs := [(Value.int .i64 r_.slots), (Value.slice a_r__owners r_.owners.length c_r__owners), (Value.slice a_r__costs r_.costs.length c_r__costs)]) (i := 0) ty23 hs4 rfl rfl rfl ?_)
   refine Rg_opg rfl rfl rfl (op_len Try.underlying23 rfl ?_)
   have rl54 := inK_len f_r__costs
   refine Rg_opg rfl rfl rfl (op_gtr rfl rfl ?_)
   refine Rg_op rfl (op_pick_f (v := (Value.bool (decide (12 < (r_.costs.length : Int))))) rfl rfl ?_)
   refine Rg_nil ?_
   exact hK10 _ _ ⟨(decide (12 < (r_.costs.length : Int))), _, rfl, ⟨(by repeat (first | with_reducible exact Out.refl _ _ | refine Out.upd ?_ rfl | refine Out.updL ?_ rfl | refine Out.mix' ?_ rfl | exact Out.refl _ _)), rfl, rfl, trivial⟩, ch51, hs4, hm⟩

end Go.Fx



set_option linter.unusedVariables false
set_option linter.unusedSimpArgs false
set_option maxRecDepth 100000
set_option maxHeartbeats 0
namespace Go.Fx
open Go Go.RowKit Go.Proofs
def m11_overflightref38_Few (r_ : XRound) : Option Bool :=
 (m29_overflightref37_Few r_).bind fun few_1 =>
 bif few_1 then
  bif (decide ((r_.owners.length : Int) ≤ 5)) then
   some (decide (r_.slots ≤ 6))
  else
   some false
 else
  some false

theorem c11_overflightref38_Few {w : World} {O : List Nat} {r_ : XRound} {a_r__owners : Option Addr} {c_r__owners : Nat} {a_r__costs : Option Addr} {c_r__costs : Nat} (hO : ∀ k ∈ O, k < w.heap.size) (r_r__slots : InK .i64 r_.slots) (f_r__owners : SlR (rInt .i64) w O a_r__owners c_r__owners r_.owners) (f_r__costs : SlR (rSl (rInt .i64)) w O a_r__costs c_r__costs r_.costs) {x : Bool} (hm : m11_overflightref38_Few r_ = some x) :
  Ok Try.prog 11 [(Value.agg [(Value.int .i64 r_.slots), (Value.slice a_r__owners r_.owners.length c_r__owners), (Value.slice a_r__costs r_.costs.length c_r__costs)].toArray)] w O vB x := by
 unfold m11_overflightref38_Few at hm
 refine Fn_of_Wp (n := 16) (xs := [.tmp 2]) Try.func11 rfl Try.ntmps11 Try.results11 rfl ?_
 have hs := St.start hO
 refine Wp_seq ?_
 refine Wp_region ?_
 refine Rg_op rfl (op_box (cs := [(Value.int .i64 r_.slots), (Value.slice a_r__owners r_.owners.length c_r__owners), (Value.slice a_r__costs r_.costs.length c_r__costs)]) hs rfl rfl ?_)
 intro b1 w2 _ p3 hs4
 replace f_r__owners := f_r__owners.step p3; replace f_r__costs := f_r__costs.step p3; clear p3
 refine Rg_op rfl (op_assign (v := (Value.bool false)) rfl ?_)
 refine Rg_nil ?_
 refine Wp_seq ?_
 refine Wp_region ?_
 refine Rg_op rfl (op_loadA (cs := [(Value.int .i64 r_.slots), (Value.slice a_r__owners r_.owners.length c_r__owners), (Value.slice a_r__costs r_.costs.length c_r__costs)]) (vs := [(Value.int .i64 r_.slots), (Value.slice a_r__owners r_.owners.length c_r__owners), (Value.slice a_r__costs r_.costs.length c_r__costs)]) (i := 0) ty25 hs4 rfl rfl rfl rfl ?_)
 replace hm := bd hm; obtain ⟨few_1, hv6, hm⟩ := hm
 refine Rg_op rfl (op_call Try.call29 (c29_overflightref37_Few (r_ := r_) hs4.ltw r_r__slots f_r__owners f_r__costs hv6) rfl ?_)
 rintro v7 w8 ⟨hx9, h10⟩
 have hs11 := hs4.call hx9
 have p12 := Step.ext (O := ks [(some b1, Obj.cells [(Value.int .i64 r_.slots), (Value.slice a_r__owners r_.owners.length c_r__owners), (Value.slice a_r__costs r_.costs.length c_r__costs)].toArray 25)] O) hx9
 clear hx9
 replace f_r__owners := f_r__owners.step p12; replace f_r__costs := f_r__costs.step p12; clear p12 hs4
 obtain rfl := h10
 refine Rg_op rfl (op_move (v := (Value.bool few_1)) rfl ?_)
 refine Rg_case (fun hg14 => ?_) (fun hg14 => ?_)
 ·
  replace hm := bif_t hm hg14
  refine Rg_opg rfl rfl rfl (op_fieldAddr ty25 rfl ty22 (by decide) rfl (rfl : _ = (⟨_, 1, none⟩ : Addr)) ?_)
  refine Rg_opg rfl rfl rfl (op_load (cs := [(Value.int .i64 r_.slots), (Value.slice a_r__owners r_.owners.length c_r__owners), (Value.slice a_r__costs r_.costs.length c_r__costs)]) (i := 0) ty22 hs11 rfl rfl rfl ?_)
  refine Rg_opg rfl rfl rfl (op_len Try.underlying22 rfl ?_)
  have rl15 := inK_len f_r__owners
  refine Rg_opg rfl rfl rfl (op_leq rfl rfl ?_)
  refine Rg_op rfl (op_pick_t (v := (Value.bool (decide ((r_.owners.length : Int) ≤ 5)))) rfl rfl ?_)
  refine Rg_op rfl (op_move (v := (Value.bool (decide ((r_.owners.length : Int) ≤ 5)))) rfl ?_)
  refine Rg_case (fun hg16 => ?_) (fun hg16 => ?_)
  ·
   replace hm := bif_t hm hg16
   refine Rg_opg rfl rfl rfl (op_fieldAddr ty25 rfl ty3 (by decide) rfl (rfl : _ = (⟨_, 0, none⟩ : Addr)) ?_)
   refine Rg_opg rfl rfl rfl (op_load (cs := [(Value.int .i64 r_.slots), (Value.slice a_r__owners r_.owners.length c_r__owners), (Value.slice a_r__costs r_.costs.length c_r__costs)]) (i := 0) ty3 hs11 rfl rfl rfl ?_)
   refine Rg_opg rfl rfl rfl (op_leq rfl rfl ?_)
   refine Rg_op rfl (op_pick_t (v := (Value.bool (decide (r_.slots ≤ 6)))) rfl rfl ?_)
   refine Rg_op rfl (op_assign (v := (Value.bool (decide (r_.slots ≤ 6)))) rfl ?_)
   refine Rg_nil ?_
   refine Wp_ret ?_
   have hz := step_all hs11
   replace f_r__owners := f_r__owners.step hz; replace f_r__costs := f_r__costs.step hz
   refine ⟨_, (show Closes [] _ _ from rfl), [(Value.bool (decide (r_.slots ≤ 6)))], ⟨rfl, trivial⟩, hs11.ext, ?_⟩
   exact Vr.eq (a := vB) (x := (decide (r_.slots ≤ 6))) rfl (Option.some.inj hm)
  ·
   replace hm := bif_f hm hg16
   iterate 3 refine Rg_opx rfl (asB_ne rfl rfl) rfl ?_
   refine Rg_op rfl (op_pick_f (v := (Value.bool false)) rfl rfl ?_)
   refine Rg_op rfl (op_assign (v := (Value.bool false)) rfl ?_)
   refine Rg_nil ?_
   refine Wp_ret ?_
   have hz := step_all hs11
   replace f_r__owners := f_r__owners.step hz; replace f_r__costs := f_r__costs.step hz
   refine ⟨_, (show Closes [] _ _ from rfl), [(Value.bool false)], ⟨rfl, trivial⟩, hs11.ext, ?_⟩
   exact Vr.eq (a := vB) (x := false) rfl (Option.some.inj hm)
 ·
  replace hm := bif_f hm hg14
  iterate 4 refine Rg_opx rfl (asB_ne rfl rfl) rfl ?_
  refine Rg_op rfl (op_pick_f (v := (Value.bool false)) rfl rfl ?_)
  refine Rg_op rfl (op_move (v := (Value.bool false)) rfl ?_)
  iterate 3 refine Rg_opx rfl (asB_ne rfl rfl) rfl ?_
  refine Rg_op rfl (op_pick_f (v := (Value.bool false)) rfl rfl ?_)
  refine Rg_op rfl (op_assign (v := (Value.bool false)) rfl ?_)
  refine Rg_nil ?_
  refine Wp_ret ?_
  have hz := step_all hs11
  replace f_r__owners := f_r__owners.step hz; replace f_r__costs := f_r__costs.step hz
  refine ⟨_, (show Closes [] _ _ from rfl), [(Value.bool false)], ⟨rfl, trivial⟩, hs11.ext, ?_⟩
  exact Vr.eq (a := vB) (x := false) rfl (Option.some.inj hm)

end Go.Fx



set_option linter.unusedVariables false
set_option linter.unusedSimpArgs false
set_option maxRecDepth 100000
set_option maxHeartbeats 0
namespace Go.Fx
open Go Go.RowKit Go.Proofs
def m28_coalition_Blocks_B0 (r_ : XRound) (slots : List Int) (group : List Int) (sf20 : Int → Option ((List Int) × Bool × Int)) (v_1 : Int) : Option ((List Int) × Bool × Int) :=
 bif (decide (v_1 < (group.length : Int))) then
  ck ((0 : Int) ≤ v_1 ∧ v_1 < (group.length : Int)) <|
  jn (fun (v_2 : Bool) =>
   bif v_2 then
    some (([] : List Int), false, 1)
   else
    sf20 (IntKind.wrap .i64 (v_1 + 1)))
  (fun k39 =>
   bif (decide ((group.getD v_1.toNat default) < 0)) then
    k39 true
   else
    bif (decide (8 ≤ (group.getD v_1.toNat default))) then
     k39 true
    else
     bif (decide (0 < v_1)) then
      ck ((0 : Int) ≤ (IntKind.wrap .i64 (v_1 - 1)) ∧ (IntKind.wrap .i64 (v_1 - 1)) < (group.length : Int)) <|
      k39 (decide ((group.getD v_1.toNat default) ≤ (group.getD (IntKind.wrap .i64 (v_1 - 1)).toNat default)))
     else
      k39 false)
 else
  bif (decide ((group.length : Int) = 0)) then
   some (([] : List Int), false, 1)
  else
   (m47_coalition_own r_).bind fun own_1 =>
   (m46_coalition_costs r_ own_1 slots).bind fun costs_1 =>
   (m49_coalition_blocks r_ costs_1 group).bind fun blocks_1 =>
   some (blocks_1.1, blocks_1.2, 0)

def m28_coalition_Blocks (r_ : XRound) (slots : List Int) (group : List Int) : Option ((List Int) × Bool × Int) :=
 (m45_coalition_check r_ slots).bind fun check_1 =>
 bif (decide (check_1 ≠ 0)) then
  some (([] : List Int), false, check_1)
 else
  loop1 (m28_coalition_Blocks_B0 r_ slots group) (((group.length : Int) - 0).toNat + 1) 0

theorem c28_coalition_Blocks {w : World} {O : List Nat} {r_ : XRound} {slots : List Int} {group : List Int} {a_r__owners : Option Addr} {c_r__owners : Nat} {a_r__costs : Option Addr} {c_r__costs : Nat} {a_slots : Option Addr} {c_slots : Nat} {a_group : Option Addr} {c_group : Nat} (hO : ∀ k ∈ O, k < w.heap.size) (r_r__slots : InK .i64 r_.slots) (f_r__owners : SlR (rInt .i64) w O a_r__owners c_r__owners r_.owners) (f_r__costs : SlR (rSl (rInt .i64)) w O a_r__costs c_r__costs r_.costs) (f_slots : SlR (rInt .i64) w O a_slots c_slots slots) (f_group : SlR (rInt .i64) w O a_group c_group group) {x : (List Int) × Bool × Int} (hm : m28_coalition_Blocks r_ slots group = some x) :
  Ok Try.prog 28 [(Value.agg [(Value.int .i64 r_.slots), (Value.slice a_r__owners r_.owners.length c_r__owners), (Value.slice a_r__costs r_.costs.length c_r__costs)].toArray), (Value.slice a_slots slots.length c_slots), (Value.slice a_group group.length c_group)] w O (vT3 (vC (rSl (rInt .i64))) vB (vI .i64)) x := by
 unfold m28_coalition_Blocks at hm
 refine Fn_of_Wp (n := 61) (xs := [.tmp 6, .tmp 7, .tmp 8]) Try.func28 rfl Try.ntmps28 Try.results28 rfl ?_
 have hs := St.start hO
 refine Wp_seq ?_
 refine Wp_region ?_
 refine Rg_op rfl (op_box (cs := [(Value.int .i64 r_.slots), (Value.slice a_r__owners r_.owners.length c_r__owners), (Value.slice a_r__costs r_.costs.length c_r__costs)]) hs rfl rfl ?_)
 intro b1 w2 _ p3 hs4
 replace f_r__owners := f_r__owners.step p3; replace f_r__costs := f_r__costs.step p3; replace f_slots := f_slots.step p3; replace f_group := f_group.step p3; clear p3
 refine Rg_op rfl (op_assign (v := (Value.slice none 0 0)) rfl ?_)
 refine Rg_op rfl (op_assign (v := (Value.bool false)) rfl ?_)
 refine Rg_op rfl (op_assign (v := (Value.int .i64 0)) rfl ?_)
 refine Rg_nil ?_
 refine Wp_seq ?_
 refine Wp_seq ?_
 refine Wp_region ?_
 refine Rg_op rfl (op_loadA (cs := [(Value.int .i64 r_.slots), (Value.slice a_r__owners r_.owners.length c_r__owners), (Value.slice a_r__costs r_.costs.length c_r__costs)]) (vs := [(Value.int .i64 r_.slots), (Value.slice a_r__owners r_.owners.length c_r__owners), (Value.slice a_r__costs r_.costs.length c_r__costs)]) (i := 0) ty25 hs4 rfl rfl rfl rfl ?_)
 refine Rg_op rfl (op_move (v := (Value.slice a_slots slots.length c_slots)) rfl ?_)
 replace hm := bd hm; obtain ⟨check_1, hv6, hm⟩ := hm
 refine Rg_op rfl (op_call Try.call45 (c45_coalition_check (r_ := r_) (slots := slots) hs4.ltw r_r__slots f_r__owners f_r__costs f_slots hv6) rfl ?_)
 rintro v7 w8 ⟨hx9, h10⟩
 have hs11 := hs4.call hx9
 have p12 := Step.ext (O := ks [(some b1, Obj.cells [(Value.int .i64 r_.slots), (Value.slice a_r__owners r_.owners.length c_r__owners), (Value.slice a_r__costs r_.costs.length c_r__costs)].toArray 25)] O) hx9
 clear hx9
 replace f_r__owners := f_r__owners.step p12; replace f_r__costs := f_r__costs.step p12; replace f_slots := f_slots.step p12; replace f_group := f_group.step p12; clear p12 hs4
 obtain ⟨rfl, r_y13⟩ := h10
 refine Rg_op rfl (op_assign (v := (Value.int .i64 check_1)) rfl ?_)
 refine Rg_nil ?_
 refine Wp_seq ?_
 refine Wp_region ?_
 refine Rg_op rfl (op_move (v := (Value.int .i64 check_1)) rfl ?_)
 refine Rg_op rfl (op_neq rfl rfl ?_)
 refine Rg_nil ?_
 refine Wp_cond rfl (fun hc14 => ?_) (fun hc14 => ?_)
 ·
  replace hm := bif_t hm hc14
  refine Wp_seq ?_
  obtain ⟨hs15, p16⟩ := hs11.sub (bs' := []) (.cons _ List.Sublist.slnil)
  clear f_r__owners f_r__costs f_slots f_group
  clear p16 hs11
  refine Wp_region ?_
  refine Rg_op rfl (op_move (v := (Value.int .i64 check_1)) rfl ?_)
  refine Rg_op rfl (op_assign (v := (Value.slice none 0 0)) rfl ?_)
  refine Rg_op rfl (op_assign (v := (Value.bool false)) rfl ?_)
  refine Rg_op rfl (op_assign (v := (Value.int .i64 check_1)) rfl ?_)
  refine Rg_nil ?_
  refine Wp_ret ?_
  have hz := step_all hs15
  refine ⟨_, (show Closes [] _ _ from rfl), [(Value.slice none 0 0), (Value.bool false), (Value.int .i64 check_1)], ⟨rfl, rfl, rfl, trivial⟩, hs15.ext, ?_⟩
  exact Vr.eq (a := (vT3 (vC (rSl (rInt .i64))) vB (vI .i64))) (x := (([] : List Int), false, check_1)) (mkT3 (mkC (mk_sl SlR.nil_)) rfl ⟨rfl, r_y13⟩) (Option.some.inj hm)
 ·
  replace hm := bif_f hm hc14
  refine Wp_skip ?_
  refine Wp_seq ?_
  refine Wp_seq ?_
  refine Wp_region ?_
  refine Rg_op rfl (op_move (v := (Value.slice a_group group.length c_group)) rfl ?_)
  refine Rg_op rfl (op_len Try.underlying22 rfl ?_)
  have rl17 := inK_len f_group
  refine Rg_op rfl (op_move (v := (Value.int .i64 0)) rfl ?_)
  refine Rg_nil ?_
  refine Wp_block ?_
  refine Wp_reset [] [(1, (Value.slice a_slots slots.length c_slots)), (2, (Value.slice a_group group.length c_group)), (3, (Value.pointer (some ⟨b1, 0, none⟩))), (18, (Value.slice a_group group.length c_group)), (19, (Value.int .i64 (group.length : Int))), (20, (Value.int .i64 0))] rfl ⟨rfl, rfl, rfl, rfl, rfl, rfl, trivial⟩ fun ξ19 => ?_
  refine Wp_loopM [6, 7, 8, 10, 11, 20, 21, 22, 23, 24, 25, 26, 27, 28, 29, 30, 31, 32, 33, 34, 35, 36, 37, 38, 39, 40, 41, 42, 43, 44] (fun m fr w' => ∃ (v_1 : Int) (Ebs : Ents), Ebs = [(some b1, Obj.cells [(Value.int .i64 r_.slots), (Value.slice a_r__owners r_.owners.length c_r__owners), (Value.slice a_r__costs r_.costs.length c_r__costs)].toArray 25)] ∧ fr [] [(20, (Value.int .i64 v_1))] ∧ Step (ks [(some b1, Obj.cells [(Value.int .i64 r_.slots), (Value.slice a_r__owners r_.owners.length c_r__owners), (Value.slice a_r__costs r_.costs.length c_r__costs)].toArray 25)] O) w8 (ks Ebs O) w' ∧ St ⟨w, [], []⟩ O w' Ebs ∧ InK .i64 v_1 ∧ loop1 (m28_coalition_Blocks_B0 r_ slots group) m v_1 = some x) (((group.length : Int) - 0).toNat + 1) ⟨0, _, rfl, ⟨Out.refl _ _, rfl, rfl, trivial⟩, Step.refl _ _, hs11, (show InK .i64 0 from by decide), hm⟩ ?_ ?_
  · rintro _ _ ⟨_, _, _, _, _, _, _, hm⟩; exact loop1_z hm
  ·
   rintro m23 K22 hK22 ρ28 w24 ⟨v_1, Ebs, hEbs, hfr27, hst26, hs25, r_y18, hm⟩
   obtain ⟨sf20, hsf21, hm⟩ := loop1_s hm; unfold m28_coalition_Blocks_B0 at hm
   subst hEbs; rw [hfr27.eq]; clear hfr27
   replace f_r__owners := f_r__owners.step hst26; replace f_r__costs := f_r__costs.step hst26; replace f_slots := f_slots.step hst26; replace f_group := f_group.step hst26
   have ch29 := hst26
   refine Wp_seq ?_
   refine Wp_region ?_
   refine Rg_op rfl (op_lss rfl rfl ?_)
   refine Rg_nil ?_
   refine Wp_seq ?_
   refine Wp_cond rfl (fun hc30 => ?_) (fun hc30 => ?_)
   ·
    replace hm := bif_t hm hc30
    refine Wp_skip ?_
    refine Wp_seq ?_
    refine Wp_block ?_
    refine Wp_seq ?_
    refine Wp_region ?_
    refine Rg_op rfl (op_move (v := (Value.int .i64 v_1)) rfl ?_)
    replace hm := ck_some hm; obtain ⟨hc31, hm⟩ := hm
    refine Rg_op rfl (op_indexAddr (q := (rInt .i64)) ty22 ty3 rfl rfl f_group rfl hc31.1 hc31.2 ?_)
    intro p32 f33
    refine Rg_op rfl (op_loadP ty3 rfl f33 rfl ?_)
    intro v34 h35
    obtain ⟨rfl, r_y36⟩ := un_int h35
    refine Rg_op rfl (op_assign (v := (Value.int .i64 v_1)) rfl ?_)
    refine Rg_op rfl (op_assign (v := (Value.int .i64 (group.getD v_1.toNat default))) rfl ?_)
    refine Rg_nil ?_
    refine Wp_reset2 [6, 7, 8, 10, 11, 20, 21, 22, 23, 24, 25, 26, 27, 28, 29, 30, 31, 32, 33, 34, 35, 36, 37, 38, 39, 40, 41, 42, 43, 44] [] (updL ⟨ξ19, []⟩ [(1, (Value.slice a_slots slots.length c_slots)), (2, (Value.slice a_group group.length c_group)), (3, (Value.pointer (some ⟨b1, 0, none⟩))), (18, (Value.slice a_group group.length c_group)), (19, (Value.int .i64 (group.length : Int))), (20, (Value.int .i64 0))]) [(10, (Value.int .i64 v_1)), (11, (Value.int .i64 (group.getD v_1.toNat default))), (20, (Value.int .i64 v_1))] (by repeat (first | with_reducible exact Out.refl _ _ | refine Out.upd ?_ rfl | refine Out.updL ?_ rfl | refine Out.mix' ?_ rfl | exact Out.refl _ _)) rfl ⟨rfl, rfl, rfl, trivial⟩ fun ξ37 => ?_
    replace hm := jn_elim hm; obtain ⟨k39, hk40, hm⟩ := hm
    refine Wp_seqJ [25, 26, 27, 28, 29, 30, 31, 32, 33, 34, 35, 36, 37, 38, 39, 40, 41, 42, 43] (fun fr w' => ∃ (v_2 : Bool) (Ebs : Ents), Ebs = [(some b1, Obj.cells [(Value.int .i64 r_.slots), (Value.slice a_r__owners r_.owners.length c_r__owners), (Value.slice a_r__costs r_.costs.length c_r__costs)].toArray 25)] ∧ fr [] [(43, (Value.bool v_2))] ∧ Step (ks [(some b1, Obj.cells [(Value.int .i64 r_.slots), (Value.slice a_r__owners r_.owners.length c_r__owners), (Value.slice a_r__costs r_.costs.length c_r__costs)].toArray 25)] O) w24 (ks Ebs O) w' ∧ St ⟨w, [], []⟩ O w' Ebs ∧ k39 v_2 = some x) ?_ ?_
    ·
     rintro ρ46 w42 ⟨v_2, Ebs, hEbs, hfr45, hst44, hs43, hm⟩
     replace hm := jnE1 hk40 hm
     subst hEbs; rw [hfr45.eq]; clear hfr45
     replace f_r__owners := f_r__owners.step hst44; replace f_r__costs := f_r__costs.step hst44; replace f_slots := f_slots.step hst44; replace f_group := f_group.step hst44; replace f33 := f33.step hst44; replace ch29 := ch29.trans hst44; clear hst44 hs25
     refine Wp_cond rfl (fun hc47 => ?_) (fun hc47 => ?_)
     ·
      replace hm := bif_t hm hc47
      refine Wp_seq ?_
      clear f_slots f_group f33
      refine Wp_region ?_
      refine Rg_op rfl (op_assign (v := (Value.slice none 0 0)) rfl ?_)
      refine Rg_op rfl (op_assign (v := (Value.bool false)) rfl ?_)
      refine Rg_op rfl (op_assign (v := (Value.int .i64 1)) rfl ?_)
      refine Rg_nil ?_
      refine Wp_ret ?_
      have hz := step_all hs43
      replace f_r__owners := f_r__owners.step hz; replace f_r__costs := f_r__costs.step hz
      refine ⟨_, (show Closes [] _ _ from rfl), [(Value.slice none 0 0), (Value.bool false), (Value.int .i64 1)], ⟨rfl, rfl, rfl, trivial⟩, hs43.ext, ?_⟩
      exact Vr.eq (a := (vT3 (vC (rSl (rInt .i64))) vB (vI .i64))) (x := (([] : List Int), false, 1)) (mkT3 (mkC (mk_sl SlR.nil_)) rfl ⟨rfl, (show InK .i64 1 from by decide)⟩) (Option.some.inj hm)
     ·
      replace hm := bif_f hm hc47
      refine Wp_skip ?_
      clear f33
      refine Wp_region ?_
      refine Rg_op rfl (op_addw rfl rfl ?_)
      refine Rg_op rfl (op_move (v := (Value.int .i64 (IntKind.wrap .i64 (v_1 + 1)))) rfl ?_)
      refine Rg_nil ?_
      exact hK22 _ _ ⟨(IntKind.wrap .i64 (v_1 + 1)), _, rfl, ⟨(by repeat (first | with_reducible exact Out.refl _ _ | refine Out.upd ?_ rfl | refine Out.updL ?_ rfl | refine Out.mix' ?_ rfl | exact Out.refl _ _)), rfl, rfl, trivial⟩, ch29, hs43, (inK_wrap .i64 _), jnE1 hsf21 hm⟩
    ·
     intro K41 hK41
     have ch48 := Step.refl (ks [(some b1, Obj.cells [(Value.int .i64 r_.slots), (Value.slice a_r__owners r_.owners.length c_r__owners), (Value.slice a_r__costs r_.costs.length c_r__costs)].toArray 25)] O) w24
     clear f33
     refine Wp_region ?_
     refine Rg_op rfl (op_move (v := (Value.int .i64 (group.getD v_1.toNat default))) rfl ?_)
     refine Rg_op rfl (op_lss rfl rfl ?_)
     refine Rg_op rfl (op_move (v := (Value.bool (decide ((group.getD v_1.toNat default) < 0)))) rfl ?_)
     refine Rg_case (fun hg49 => ?_) (fun hg49 => ?_)
     ·
      replace hm := bif_t hm hg49
      iterate 2 refine Rg_opx rfl (asB_ne rfl rfl) rfl ?_
      refine Rg_op rfl (op_pick_t (v := (Value.bool true)) rfl rfl ?_)
      refine Rg_op rfl (op_move (v := (Value.bool true)) rfl ?_)
      iterate 11 refine Rg_opx rfl (asB_ne rfl rfl) rfl ?_
      refine Rg_op rfl (op_pick_t (v := (Value.bool true)) rfl rfl ?_)
      refine Rg_nil ?_
      exact hK41 _ _ ⟨true, _, rfl, ⟨(by repeat (first | with_reducible exact Out.refl _ _ | refine Out.upd ?_ rfl | refine Out.updL ?_ rfl | refine Out.mix' ?_ rfl | exact Out.refl _ _)), rfl, rfl, trivial⟩, ch48, hs25, hm⟩
     ·
      replace hm := bif_f hm hg49
      refine Rg_opg rfl rfl rfl (op_move (v := (Value.int .i64 (group.getD v_1.toNat default))) rfl ?_)
      refine Rg_opg rfl rfl rfl (op_geq rfl rfl ?_)
      refine Rg_op rfl (op_pick_f (v := (Value.bool (decide (8 ≤ (group.getD v_1.toNat default))))) rfl rfl ?_)
      refine Rg_op rfl (op_move (v := (Value.bool (decide (8 ≤ (group.getD v_1.toNat default))))) rfl ?_)
      refine Rg_case (fun hg50 => ?_) (fun hg50 => ?_)
      ·
       replace hm := bif_t hm hg50
       iterate 11 refine Rg_opx rfl (asB_ne rfl rfl) rfl ?_
       refine Rg_op rfl (op_pick_t (v := (Value.bool true)) rfl rfl ?_)
       refine Rg_nil ?_
       exact hK41 _ _ ⟨true, _, rfl, ⟨(by repeat (first | with_reducible exact Out.refl _ _ | refine Out.upd ?_ rfl | refine Out.updL ?_ rfl | refine Out.mix' ?_ rfl | exact Out.refl _ _)), rfl, rfl, trivial⟩, ch48, hs25, hm⟩
      ·
       replace hm := bif_f hm hg50
       refine Rg_opg rfl rfl rfl (op_move (v := (Value.int .i64 v_1)) rfl ?_)
       refine Rg_opg rfl rfl rfl (op_gtr rfl rfl ?_)
       refine Rg_opg rfl rfl rfl (op_move (v := (Value.bool (decide (0 < v_1)))) rfl ?_)
       refine Rg_case (fun hg51 => ?_) (fun hg51 => ?_)
       ·
        replace hm := bif_t hm hg51
        refine Rg_opg rfl rfl rfl (op_move (v := (Value.slice a_group group.length c_group)) rfl ?_)
        refine Rg_opg rfl rfl rfl (op_move (v := (Value.int .i64 v_1)) rfl ?_)
        refine Rg_opg rfl rfl rfl (op_subw rfl rfl ?_)
        replace hm := ck_some hm; obtain ⟨hc52, hm⟩ := hm
        refine Rg_opg rfl rfl rfl (op_indexAddr (q := (rInt .i64)) ty22 ty3 rfl rfl f_group rfl hc52.1 hc52.2 ?_)
        intro p53 f54
        refine Rg_opg rfl rfl rfl (op_loadP ty3 rfl f54 rfl ?_)
        intro v55 h56
        obtain ⟨rfl, r_y57⟩ := un_int h56
        refine Rg_opg rfl rfl rfl (op_move (v := (Value.int .i64 (group.getD v_1.toNat default))) rfl ?_)
        refine Rg_opg rfl rfl rfl (op_geq rfl rfl ?_)
        refine Rg_opg rfl rfl rfl (op_pick_t (v := (Value.bool (decide ((group.getD v_1.toNat default) ≤ (group.getD (IntKind.wrap .i64 (v_1 - 1)).toNat default))))) rfl rfl ?_)
        refine Rg_op rfl (op_pick_f (v := (Value.bool (decide ((group.getD v_1.toNat default) ≤ (group.getD (IntKind.wrap .i64 (v_1 - 1)).toNat default))))) rfl rfl ?_)
        refine Rg_nil ?_
        exact hK41 _ _ ⟨(decide ((group.getD v_1.toNat default) ≤ (group.getD (IntKind.wrap .i64 (v_1 - 1)).toNat default))), _, rfl, ⟨(by repeat (first | with_reducible exact Out.refl _ _ | refine Out.upd ?_ rfl | refine Out.updL ?_ rfl | refine Out.mix' ?_ rfl | exact Out.refl _ _)), rfl, rfl, trivial⟩, ch48, hs25, hm⟩
       ·
        replace hm := bif_f hm hg51
        iterate 7 refine Rg_opx rfl (asB_ne rfl rfl) rfl ?_
        refine Rg_opg rfl rfl rfl (op_pick_f (v := (Value.bool false)) rfl rfl ?_)
        refine Rg_op rfl (op_pick_f (v := (Value.bool false)) rfl rfl ?_)
        refine Rg_nil ?_
        exact hK41 _ _ ⟨false, _, rfl, ⟨(by repeat (first | with_reducible exact Out.refl _ _ | refine Out.upd ?_ rfl | refine Out.updL ?_ rfl | refine Out.mix' ?_ rfl | exact Out.refl _ _)), rfl, rfl, trivial⟩, ch48, hs25, hm⟩
   ·
    replace hm := bif_f hm hc30
    refine Wp_exit ?_
    refine Wp_seq ?_
    refine Wp_seq ?_
    refine Wp_region ?_
    refine Rg_op rfl (op_move (v := (Value.slice a_group group.length c_group)) rfl ?_)
    refine Rg_op rfl (op_len Try.underlying22 rfl ?_)
    have rl58 := inK_len f_group
    refine Rg_op rfl (op_eql rfl rfl ?_)
    refine Rg_nil ?_
    refine Wp_cond rfl (fun hc59 => ?_) (fun hc59 => ?_)
    ·
     replace hm := bif_t hm hc59
     refine Wp_seq ?_
     obtain ⟨hs60, p61⟩ := hs25.sub (bs' := []) (.cons _ List.Sublist.slnil)
     clear f_r__owners f_r__costs f_slots f_group
     replace ch29 := ch29.trans p61; clear p61 hs25
     refine Wp_region ?_
     refine Rg_op rfl (op_assign (v := (Value.slice none 0 0)) rfl ?_)
     refine Rg_op rfl (op_assign (v := (Value.bool false)) rfl ?_)
     refine Rg_op rfl (op_assign (v := (Value.int .i64 1)) rfl ?_)
     refine Rg_nil ?_
     refine Wp_ret ?_
     have hz := step_all hs60
     refine ⟨_, (show Closes [] _ _ from rfl), [(Value.slice none 0 0), (Value.bool false), (Value.int .i64 1)], ⟨rfl, rfl, rfl, trivial⟩, hs60.ext, ?_⟩
     exact Vr.eq (a := (vT3 (vC (rSl (rInt .i64))) vB (vI .i64))) (x := (([] : List Int), false, 1)) (mkT3 (mkC (mk_sl SlR.nil_)) rfl ⟨rfl, (show InK .i64 1 from by decide)⟩) (Option.some.inj hm)
    ·
     replace hm := bif_f hm hc59
     refine Wp_skip ?_
     refine Wp_seq ?_
     refine Wp_drawR (g0 := []) (m := 11) (fl := [10]) (TS_inv hs25) rfl (.inl rfl) rfl (by decide +kernel) ?_  -- 12
     refine Dw_eq (Value.agg [(Value.int .i64 r_.slots), (Value.slice a_r__owners r_.owners.length c_r__owners), (Value.slice a_r__costs r_.costs.length c_r__costs)].toArray) (fun ρ62 w63 g hle hi ht => ?_) ?_
     ·
      obtain ⟨-, hst, -⟩ := hle
      have hsn := (Step.nx hi).1
      refine StepOp_plain (op_loadA (cs := [(Value.int .i64 r_.slots), (Value.slice a_r__owners r_.owners.length c_r__owners), (Value.slice a_r__costs r_.costs.length c_r__costs)]) (vs := [(Value.int .i64 r_.slots), (Value.slice a_r__owners r_.owners.length c_r__owners), (Value.slice a_r__costs r_.costs.length c_r__costs)]) (i := 0) ty25 hsn (ht 3 rfl) rfl rfl rfl ?_)
      exact Goes.same hi rfl
     refine Dw_eq (Value.agg [(Value.int .i64 r_.slots), (Value.slice a_r__owners r_.owners.length c_r__owners), (Value.slice a_r__costs r_.costs.length c_r__costs)].toArray) (fun ρ65 w66 g hle hi ht => ?_) ?_
     ·
      obtain ⟨-, hst, -⟩ := hle
      have hsn := (Step.nx hi).1
      refine StepOp_plain (op_loadA (cs := [(Value.int .i64 r_.slots), (Value.slice a_r__owners r_.owners.length c_r__owners), (Value.slice a_r__costs r_.costs.length c_r__costs)]) (vs := [(Value.int .i64 r_.slots), (Value.slice a_r__owners r_.owners.length c_r__owners), (Value.slice a_r__costs r_.costs.length c_r__costs)]) (i := 0) ty25 hsn (ht 3 rfl) rfl rfl rfl ?_)
      exact Goes.same hi rfl
     refine Dw_eq (Value.agg [(Value.int .i64 r_.slots), (Value.slice a_r__owners r_.owners.length c_r__owners), (Value.slice a_r__costs r_.costs.length c_r__costs)].toArray) (fun ρ68 w69 g hle hi ht => ?_) ?_
     ·
      obtain ⟨-, hst, -⟩ := hle
      have hsn := (Step.nx hi).1
      refine StepOp_plain (op_loadA (cs := [(Value.int .i64 r_.slots), (Value.slice a_r__owners r_.owners.length c_r__owners), (Value.slice a_r__costs r_.costs.length c_r__costs)]) (vs := [(Value.int .i64 r_.slots), (Value.slice a_r__owners r_.owners.length c_r__owners), (Value.slice a_r__costs r_.costs.length c_r__costs)]) (i := 0) ty25 hsn (ht 3 rfl) rfl rfl rfl ?_)
      exact Goes.same hi rfl
     replace hm := bd hm; obtain ⟨own_1, hv74, hm⟩ := hm
     refine Dw_op (VD O [(some b1, Obj.cells [(Value.int .i64 r_.slots), (Value.slice a_r__owners r_.owners.length c_r__owners), (Value.slice a_r__costs r_.costs.length c_r__costs)].toArray 25)] (vC (rSl (rInt .i64))) own_1) (VD.stab _ _) (fun ρ71 w72 g hle hi ht => ?_) ?_
     ·
      obtain ⟨-, hst, -⟩ := hle
      replace f_r__owners := f_r__owners.step hst; replace f_r__costs := f_r__costs.step hst
      refine StepOp_plain (op_call Try.call47 (c47_coalition_own (O := ks (ents g ++ [(some b1, Obj.cells [(Value.int .i64 r_.slots), (Value.slice a_r__owners r_.owners.length c_r__owners), (Value.slice a_r__costs r_.costs.length c_r__costs)].toArray 25)]) O) (r_ := r_) hi.ltw r_r__slots f_r__owners f_r__costs hv74) (by simp only [List.map, Array.toList, (show ev _ (.tmp 51) = _ from (ht 51 rfl))] <;> rfl) ?_)
      rintro v75 w76 ⟨hx77, h78⟩
      exact Goes.call hi hx77 h78
     refine Dw_eq (Value.slice a_slots slots.length c_slots) (fun ρ80 w81 g hle hi ht => ?_) ?_
     ·
      obtain ⟨-, hst, -⟩ := hle
      refine StepOp_plain (op_move (v := (Value.slice a_slots slots.length c_slots)) (ht 1 rfl) ?_)
      exact Goes.same hi rfl
     replace hm := bd hm; obtain ⟨costs_1, hv89, hm⟩ := hm
     refine Dw_op (VD O [(some b1, Obj.cells [(Value.int .i64 r_.slots), (Value.slice a_r__owners r_.owners.length c_r__owners), (Value.slice a_r__costs r_.costs.length c_r__costs)].toArray 25)] (vC (rSl (rInt .i64))) costs_1) (VD.stab _ _) (fun ρ83 w84 g hle hi ht => ?_) ?_
     ·
      obtain ⟨-, hst, -⟩ := hle
      replace f_r__owners := f_r__owners.step hst; replace f_r__costs := f_r__costs.step hst; replace f_slots := f_slots.step hst
      have h86 : Vr.vd (vC (rSl (rInt .i64))) _ _ _ _ := ht 52 rfl
      obtain ⟨a_y88, c_y88, q87, f_y88⟩ := un_sl h86
      refine StepOp_plain (op_call Try.call46 (c46_coalition_costs (O := ks (ents g ++ [(some b1, Obj.cells [(Value.int .i64 r_.slots), (Value.slice a_r__owners r_.owners.length c_r__owners), (Value.slice a_r__costs r_.costs.length c_r__costs)].toArray 25)]) O) (r_ := r_) (flights := own_1) (slots := slots) hi.ltw r_r__slots f_r__owners f_r__costs f_y88 f_slots hv89) (by simp only [List.map, Array.toList, (show ev _ (.tmp 50) = _ from (ht 50 rfl)), (show ev _ (.tmp 52) = _ from q87), (show ev _ (.tmp 53) = _ from (ht 53 rfl))] <;> rfl) ?_)
      rintro v90 w91 ⟨hx92, h93⟩
      exact Goes.call hi hx92 h93
     refine Dw_eq (Value.slice a_group group.length c_group) (fun ρ95 w96 g hle hi ht => ?_) ?_
     ·
      obtain ⟨-, hst, -⟩ := hle
      refine StepOp_plain (op_move (v := (Value.slice a_group group.length c_group)) (ht 2 rfl) ?_)
      exact Goes.same hi rfl
     replace hm := bd hm; obtain ⟨blocks_1, hv104, hm⟩ := hm
     refine Dw_op (VD O [(some b1, Obj.cells [(Value.int .i64 r_.slots), (Value.slice a_r__owners r_.owners.length c_r__owners), (Value.slice a_r__costs r_.costs.length c_r__costs)].toArray 25)] (vT2 (vC (rSl (rInt .i64))) vB) blocks_1) (VD.stab _ _) (fun ρ98 w99 g hle hi ht => ?_) ?_
     ·
      obtain ⟨-, hst, -⟩ := hle
      replace f_r__owners := f_r__owners.step hst; replace f_r__costs := f_r__costs.step hst; replace f_group := f_group.step hst
      have h101 : Vr.vd (vC (rSl (rInt .i64))) _ _ _ _ := ht 54 rfl
      obtain ⟨a_y103, c_y103, q102, f_y103⟩ := un_sl h101
      refine StepOp_plain (op_call Try.call49 (c49_coalition_blocks (O := ks (ents g ++ [(some b1, Obj.cells [(Value.int .i64 r_.slots), (Value.slice a_r__owners r_.owners.length c_r__owners), (Value.slice a_r__costs r_.costs.length c_r__costs)].toArray 25)]) O) (r_ := r_) (than := costs_1) (group := group) hi.ltw r_r__slots f_r__owners f_r__costs f_y103 f_group hv104) (by simp only [List.map, Array.toList, (show ev _ (.tmp 49) = _ from (ht 49 rfl)), (show ev _ (.tmp 54) = _ from q102), (show ev _ (.tmp 55) = _ from (ht 55 rfl))] <;> rfl) ?_)
      rintro v105 w106 ⟨hx107, h108⟩
      exact Goes.call hi hx107 h108
     refine Dw_op (VD O [(some b1, Obj.cells [(Value.int .i64 r_.slots), (Value.slice a_r__owners r_.owners.length c_r__owners), (Value.slice a_r__costs r_.costs.length c_r__costs)].toArray 25)] (vT2 (vC (rSl (rInt .i64))) vB) blocks_1) (VD.stab _ _) (fun ρ110 w111 g hle hi ht => ?_) ?_
     ·
      obtain ⟨-, hst, -⟩ := hle
      have h : Vr.vd (vT2 (vC (rSl (rInt .i64))) vB) _ _ _ _ := ht 56 rfl
      refine StepOp_plain (op_move rfl (Goes.same hi h))
     refine Dw_op (VD O [(some b1, Obj.cells [(Value.int .i64 r_.slots), (Value.slice a_r__owners r_.owners.length c_r__owners), (Value.slice a_r__costs r_.costs.length c_r__costs)].toArray 25)] (vC (rSl (rInt .i64))) blocks_1.1) (VD.stab _ _) (fun ρ121 w122 g hle hi ht => ?_) ?_
     ·
      obtain ⟨-, hst, -⟩ := hle
      have h124 : Vr.vd (vT2 (vC (rSl (rInt .i64))) vB) _ _ _ _ := ht 48 rfl
      obtain ⟨v126, v127, q125, h128, h129⟩ := h124
      obtain ⟨a_y130, c_y130, rfl, f_y130⟩ := un_sl h128
      obtain rfl := h129
      refine StepOp_plain (op_extract (v := (Value.slice a_y130 blocks_1.1.length c_y130)) q125 rfl ?_)
      exact Goes.same hi (show Vr.vd (vC (rSl (rInt .i64))) _ _ _ _ from (mkC (mk_sl f_y130)))
     refine Dw_eq (Value.bool blocks_1.2) (fun ρ132 w133 g hle hi ht => ?_) ?_
     ·
      obtain ⟨-, hst, -⟩ := hle
      have h135 : Vr.vd (vT2 (vC (rSl (rInt .i64))) vB) _ _ _ _ := ht 48 rfl
      obtain ⟨v137, v138, q136, h139, h140⟩ := h135
      obtain ⟨a_y141, c_y141, rfl, f_y141⟩ := un_sl h139
      obtain rfl := h140
      refine StepOp_plain (op_extract (v := (Value.bool blocks_1.2)) q136 rfl ?_)
      exact Goes.same hi rfl
     refine Dw_nil fun w147 g148 hl149 hi150 => ?_
     obtain ⟨-, hst151, -⟩ := hl149
     obtain ⟨hs153, p152⟩ := Step.nx hi150
     rintro _ rfl
     rintro v154 h155
     replace h155 : Vr.vd (vC (rSl (rInt .i64))) _ _ _ _ := h155
     obtain ⟨a_y156, c_y156, rfl, f_y156⟩ := un_sl h155
     rintro v157 h158
     replace h158 : Vr.vd (vT2 (vC (rSl (rInt .i64))) vB) _ _ _ _ := h158
     obtain ⟨v159, v160, rfl, h161, h162⟩ := h158
     obtain ⟨a_y163, c_y163, rfl, f_y163⟩ := un_sl h161
     obtain rfl := h162
     rintro v165 h166
     replace h166 : Vr.vd (vT2 (vC (rSl (rInt .i64))) vB) _ _ _ _ := h166
     obtain ⟨v167, v168, rfl, h169, h170⟩ := h166
     obtain ⟨a_y171, c_y171, rfl, f_y171⟩ := un_sl h169
     obtain rfl := h170
     rintro _ rfl
     rintro v173 h174
     replace h174 : Vr.vd (vC (rSl (rInt .i64))) _ _ _ _ := h174
     obtain ⟨a_y175, c_y175, rfl, f_y175⟩ := un_sl h174
     rintro _ rfl
     rintro v176 h177
     replace h177 : Vr.vd (vC (rSl (rInt .i64))) _ _ _ _ := h177
     obtain ⟨a_y178, c_y178, rfl, f_y178⟩ := un_sl h177
     rintro _ rfl
     rintro _ rfl
     rintro _ rfl
     have p179 : Step (ks [(some b1, Obj.cells [(Value.int .i64 r_.slots), (Value.slice a_r__owners r_.owners.length c_r__owners), (Value.slice a_r__costs r_.costs.length c_r__costs)].toArray 25)] O) w24 (ks [(some b1, Obj.cells [(Value.int .i64 r_.slots), (Value.slice a_r__owners r_.owners.length c_r__owners), (Value.slice a_r__costs r_.costs.length c_r__costs)].toArray 25)] O) w147 := hst151.trans p152
     replace f_y156 := f_y156.step p152; replace f_y163 := f_y163.step p152; replace f_y171 := f_y171.step p152; replace f_y175 := f_y175.step p152; replace f_y178 := f_y178.step p152; replace f_r__owners := f_r__owners.step p179; replace f_r__costs := f_r__costs.step p179; replace f_slots := f_slots.step p179; replace f_group := f_group.step p179; replace ch29 := ch29.trans p179; clear p179 hs25
     refine Rg_op rfl (op_assign (v := (Value.slice a_y156 blocks_1.1.length c_y156)) rfl ?_)
     refine Rg_op rfl (op_assign (v := (Value.bool blocks_1.2)) rfl ?_)
     refine Rg_nil ?_
     refine Wp_seq ?_
     obtain ⟨hs180, p181⟩ := hs153.sub (bs' := []) (.cons _ List.Sublist.slnil)
     clear f_r__owners f_r__costs f_slots f_group f_y163 f_y171 f_y175 f_y178
     replace f_y156 := f_y156.step p181; replace ch29 := ch29.trans p181; clear p181 hs153
     refine Wp_region ?_
     refine Rg_op rfl (op_move (v := (Value.slice a_y156 blocks_1.1.length c_y156)) rfl ?_)
     refine Rg_op rfl (op_move (v := (Value.bool blocks_1.2)) rfl ?_)
     refine Rg_op rfl (op_assign (v := (Value.slice a_y156 blocks_1.1.length c_y156)) rfl ?_)
     refine Rg_op rfl (op_assign (v := (Value.bool blocks_1.2)) rfl ?_)
     refine Rg_op rfl (op_assign (v := (Value.int .i64 0)) rfl ?_)
     refine Rg_nil ?_
     refine Wp_ret ?_
     have hz := step_all hs180
     replace f_y156 := f_y156.step hz
     refine ⟨_, (show Closes [] _ _ from rfl), [(Value.slice a_y156 blocks_1.1.length c_y156), (Value.bool blocks_1.2), (Value.int .i64 0)], ⟨rfl, rfl, rfl, trivial⟩, hs180.ext, ?_⟩
     exact Vr.eq (a := (vT3 (vC (rSl (rInt .i64))) vB (vI .i64))) (x := (blocks_1.1, blocks_1.2, 0)) (mkT3 (mkC (mk_sl f_y156)) rfl ⟨rfl, (show InK .i64 0 from by decide)⟩) (Option.some.inj hm)

end Go.Fx



set_option linter.unusedVariables false
set_option linter.unusedSimpArgs false
set_option maxRecDepth 100000
set_option maxHeartbeats 0
namespace Go.Fx
open Go Go.RowKit Go.Proofs
def m9_overflightlaw38_ClearingFair_B1 (r_ : XRound) (best_1 : (List Int) × Int) (mask_1 : Int) (sf123 : Int → Option Bool) (sf138 : (List Int) → Int → Option Bool) (group_1 : List Int) (v_3 : Int) : Option Bool :=
 bif (decide (v_3 < 8)) then
  ck ((0 : Int) ≤ v_3) <|
  bif (decide ((Go.bits .and .i64 (mask_1 / 2 ^ min v_3.toNat (IntKind.bits .i64)) 1) = 1)) then
   ck ((group_1.length + [v_3].length) * 8 ≤ 140737488355328) <|
   sf138 (group_1 ++ [v_3]) (IntKind.wrap .i64 (v_3 + 1))
  else
   sf138 group_1 (IntKind.wrap .i64 (v_3 + 1))
 else
  (m28_coalition_Blocks r_ best_1.1 group_1).bind fun blocks_1 =>
  jn (fun (v_4 : Bool) =>
   bif v_4 then
    some false
   else
    sf123 (IntKind.wrap .i64 (mask_1 + 1)))
  (fun k190 =>
   bif (decide (blocks_1.2.2 ≠ 0)) then
    k190 true
   else
    k190 blocks_1.2.1)

def m9_overflightlaw38_ClearingFair_B0 (r_ : XRound) (best_1 : (List Int) × Int) (sf123 : Int → Option Bool) (mask_1 : Int) : Option Bool :=
 bif (decide (mask_1 < 256)) then
  loop2 (m9_overflightlaw38_ClearingFair_B1 r_ best_1 mask_1 sf123) (((8 : Int) - 0).toNat + 1) ([] : List Int) 0
 else
  some true

def m9_overflightlaw38_ClearingFair (r_ : XRound) : Option Bool :=
 (m10_overflightlaw38_sane).bind fun sane_1 =>
 bif (!sane_1) then
  some false
 else
  (m11_overflightref38_Few r_).bind fun few_1 =>
  bif (!few_1) then
   some true
  else
   (m18_clearing_Best r_).bind fun best_1 =>
   bif (decide (best_1.2 ≠ 0)) then
    jn (fun (v_1 : Bool) =>
     some v_1)
    (fun k44 =>
     bif (decide ((best_1.1.length : Int) = 0)) then
      bif (decide (best_1.2 = 380)) then
       (m25_coalition_Check r_).bind fun check_1 =>
       bif (decide (check_1 = 0)) then
        k44 true
       else
        (m25_coalition_Check r_).bind fun check_2 =>
        k44 (decide (best_1.2 = check_2))
      else
       (m25_coalition_Check r_).bind fun check_3 =>
       k44 (decide (best_1.2 = check_3))
     else
      k44 false)
   else
    (m26_coalition_Allowed r_ best_1.1).bind fun allowed_1 =>
    (m27_coalition_Worse r_ best_1.1).bind fun worse_1 =>
    jn (fun (v_2 : Bool) =>
     bif v_2 then
      some false
     else
      loop1 (m9_overflightlaw38_ClearingFair_B0 r_ best_1) (((256 : Int) - 1).toNat + 1) 1)
    (fun k110 =>
     bif (decide (allowed_1.2 ≠ 0)) then
      k110 true
     else
      bif (!allowed_1.1) then
       k110 true
      else
       bif (decide (worse_1.2 ≠ 0)) then
        k110 true
       else
        k110 (decide (0 < (worse_1.1.length : Int))))

theorem c9_overflightlaw38_ClearingFair {w : World} {O : List Nat} {r_ : XRound} {a_r__owners : Option Addr} {c_r__owners : Nat} {a_r__costs : Option Addr} {c_r__costs : Nat} (hO : ∀ k ∈ O, k < w.heap.size) (r_r__slots : InK .i64 r_.slots) (f_r__owners : SlR (rInt .i64) w O a_r__owners c_r__owners r_.owners) (f_r__costs : SlR (rSl (rInt .i64)) w O a_r__costs c_r__costs r_.costs) {x : Bool} (hm : m9_overflightlaw38_ClearingFair r_ = some x) :
  Ok Try.prog 9 [(Value.agg [(Value.int .i64 r_.slots), (Value.slice a_r__owners r_.owners.length c_r__owners), (Value.slice a_r__costs r_.costs.length c_r__costs)].toArray)] w O vB x := by
 unfold m9_overflightlaw38_ClearingFair at hm
 refine Fn_of_Wp (n := 102) (xs := [.tmp 2]) Try.func9 rfl Try.ntmps9 Try.results9 rfl ?_
 have hs := St.start hO
 refine Wp_seq ?_
 refine Wp_region ?_
 refine Rg_op rfl (op_box (cs := [(Value.int .i64 r_.slots), (Value.slice a_r__owners r_.owners.length c_r__owners), (Value.slice a_r__costs r_.costs.length c_r__costs)]) hs rfl rfl ?_)
 intro b1 w2 _ p3 hs4
 replace f_r__owners := f_r__owners.step p3; replace f_r__costs := f_r__costs.step p3; clear p3
 refine Rg_op rfl (op_assign (v := (Value.bool false)) rfl ?_)
 refine Rg_nil ?_
 refine Wp_seq ?_
 refine Wp_seq ?_
 refine Wp_region ?_
 replace hm := bd hm; obtain ⟨sane_1, hv6, hm⟩ := hm
 refine Rg_op rfl (op_call Try.call10 (c10_overflightlaw38_sane  hs4.ltw  hv6) rfl ?_)
 rintro v7 w8 ⟨hx9, h10⟩
 have hs11 := hs4.call hx9
 have p12 := Step.ext (O := ks [(some b1, Obj.cells [(Value.int .i64 r_.slots), (Value.slice a_r__owners r_.owners.length c_r__owners), (Value.slice a_r__costs r_.costs.length c_r__costs)].toArray 25)] O) hx9
 clear hx9
 replace f_r__owners := f_r__owners.step p12; replace f_r__costs := f_r__costs.step p12; clear p12 hs4
 obtain rfl := h10
 refine Rg_op rfl (op_not rfl ?_)
 refine Rg_nil ?_
 refine Wp_cond rfl (fun hc14 => ?_) (fun hc14 => ?_)
 ·
  replace hm := bif_t hm hc14
  refine Wp_seq ?_
  obtain ⟨hs15, p16⟩ := hs11.sub (bs' := []) (.cons _ List.Sublist.slnil)
  clear f_r__owners f_r__costs
  clear p16 hs11
  refine Wp_region ?_
  refine Rg_op rfl (op_assign (v := (Value.bool false)) rfl ?_)
  refine Rg_nil ?_
  refine Wp_ret ?_
  have hz := step_all hs15
  refine ⟨_, (show Closes [] _ _ from rfl), [(Value.bool false)], ⟨rfl, trivial⟩, hs15.ext, ?_⟩
  exact Vr.eq (a := vB) (x := false) rfl (Option.some.inj hm)
 ·
  replace hm := bif_f hm hc14
  refine Wp_skip ?_
  refine Wp_seq ?_
  refine Wp_seq ?_
  refine Wp_region ?_
  refine Rg_op rfl (op_loadA (cs := [(Value.int .i64 r_.slots), (Value.slice a_r__owners r_.owners.length c_r__owners), (Value.slice a_r__costs r_.costs.length c_r__costs)]) (vs := [(Value.int .i64 r_.slots), (Value.slice a_r__owners r_.owners.length c_r__owners), (Value.slice a_r__costs r_.costs.length c_r__costs)]) (i := 0) ty25 hs11 rfl rfl rfl rfl ?_)
  replace hm := bd hm; obtain ⟨few_1, hv17, hm⟩ := hm
  refine Rg_op rfl (op_call Try.call11 (c11_overflightref38_Few (r_ := r_) hs11.ltw r_r__slots f_r__owners f_r__costs hv17) rfl ?_)
  rintro v18 w19 ⟨hx20, h21⟩
  have hs22 := hs11.call hx20
  have p23 := Step.ext (O := ks [(some b1, Obj.cells [(Value.int .i64 r_.slots), (Value.slice a_r__owners r_.owners.length c_r__owners), (Value.slice a_r__costs r_.costs.length c_r__costs)].toArray 25)] O) hx20
  clear hx20
  replace f_r__owners := f_r__owners.step p23; replace f_r__costs := f_r__costs.step p23; clear p23 hs11
  obtain rfl := h21
  refine Rg_op rfl (op_not rfl ?_)
  refine Rg_nil ?_
  refine Wp_cond rfl (fun hc25 => ?_) (fun hc25 => ?_)
  ·
   replace hm := bif_t hm hc25
   refine Wp_seq ?_
   obtain ⟨hs26, p27⟩ := hs22.sub (bs' := []) (.cons _ List.Sublist.slnil)
   clear f_r__owners f_r__costs
   clear p27 hs22
   refine Wp_region ?_
   refine Rg_op rfl (op_assign (v := (Value.bool true)) rfl ?_)
   refine Rg_nil ?_
   refine Wp_ret ?_
   have hz := step_all hs26
   refine ⟨_, (show Closes [] _ _ from rfl), [(Value.bool true)], ⟨rfl, trivial⟩, hs26.ext, ?_⟩
   exact Vr.eq (a := vB) (x := true) rfl (Option.some.inj hm)
  ·
   replace hm := bif_f hm hc25
   refine Wp_skip ?_
   refine Wp_seq ?_
   refine Wp_region ?_
   refine Rg_op rfl (op_loadA (cs := [(Value.int .i64 r_.slots), (Value.slice a_r__owners r_.owners.length c_r__owners), (Value.slice a_r__costs r_.costs.length c_r__costs)]) (vs := [(Value.int .i64 r_.slots), (Value.slice a_r__owners r_.owners.length c_r__owners), (Value.slice a_r__costs r_.costs.length c_r__costs)]) (i := 0) ty25 hs22 rfl rfl rfl rfl ?_)
   replace hm := bd hm; obtain ⟨best_1, hv28, hm⟩ := hm
   refine Rg_op rfl (op_call Try.call18 (c18_clearing_Best (r_ := r_) hs22.ltw r_r__slots f_r__owners f_r__costs hv28) rfl ?_)
   rintro v29 w30 ⟨hx31, h32⟩
   have hs33 := hs22.call hx31
   have p34 := Step.ext (O := ks [(some b1, Obj.cells [(Value.int .i64 r_.slots), (Value.slice a_r__owners r_.owners.length c_r__owners), (Value.slice a_r__costs r_.costs.length c_r__costs)].toArray 25)] O) hx31
   clear hx31
   replace f_r__owners := f_r__owners.step p34; replace f_r__costs := f_r__costs.step p34; clear p34 hs22
   obtain ⟨v35, v36, rfl, h37, h38⟩ := h32
   obtain ⟨a_y39, c_y39, rfl, f_y39⟩ := un_sl h37
   obtain ⟨rfl, r_y40⟩ := h38
   refine Rg_op rfl (op_move (v := (Value.tuple [(Value.slice a_y39 best_1.1.length c_y39), (Value.int .i64 best_1.2)].toArray)) rfl ?_)
   refine Rg_op rfl (op_extract (v := (Value.slice a_y39 best_1.1.length c_y39)) rfl rfl ?_)
   refine Rg_op rfl (op_extract (v := (Value.int .i64 best_1.2)) rfl rfl ?_)
   refine Rg_op rfl (op_assign (v := (Value.slice a_y39 best_1.1.length c_y39)) rfl ?_)
   refine Rg_op rfl (op_assign (v := (Value.int .i64 best_1.2)) rfl ?_)
   refine Rg_nil ?_
   refine Wp_seq ?_
   refine Wp_seq ?_
   refine Wp_region ?_
   refine Rg_op rfl (op_move (v := (Value.int .i64 best_1.2)) rfl ?_)
   refine Rg_op rfl (op_neq rfl rfl ?_)
   refine Rg_nil ?_
   refine Wp_cond rfl (fun hc41 => ?_) (fun hc41 => ?_)
   ·
    replace hm := bif_t hm hc41
    refine Wp_reset [] [(1, (Value.pointer (some ⟨b1, 0, none⟩))), (3, (Value.slice a_y39 best_1.1.length c_y39)), (4, (Value.int .i64 best_1.2))] rfl ⟨rfl, rfl, rfl, trivial⟩ fun ξ42 => ?_
    replace hm := jn_elim hm; obtain ⟨k44, hk45, hm⟩ := hm
    refine Wp_seqJ [2, 27, 28, 29, 30, 31, 32, 33, 34, 35, 36, 37, 38, 39, 40, 41, 42, 43, 44] (fun fr w' => ∃ (v_1 : Bool) (Ebs : Ents), Ebs = [(some b1, Obj.cells [(Value.int .i64 r_.slots), (Value.slice a_r__owners r_.owners.length c_r__owners), (Value.slice a_r__costs r_.costs.length c_r__costs)].toArray 25)] ∧ fr [] [(2, (Value.bool v_1))] ∧ Step (ks [(some b1, Obj.cells [(Value.int .i64 r_.slots), (Value.slice a_r__owners r_.owners.length c_r__owners), (Value.slice a_r__costs r_.costs.length c_r__costs)].toArray 25)] O) w30 (ks Ebs O) w' ∧ St ⟨w, [], []⟩ O w' Ebs ∧ k44 v_1 = some x) ?_ ?_
    ·
     rintro ρ51 w47 ⟨v_1, Ebs, hEbs, hfr50, hst49, hs48, hm⟩
     replace hm := jnE1 hk45 hm
     subst hEbs; rw [hfr50.eq]; clear hfr50
     replace f_r__owners := f_r__owners.step hst49; replace f_r__costs := f_r__costs.step hst49; replace f_y39 := f_y39.step hst49; clear hst49 hs33
     refine Wp_ret ?_
     have hz := step_all hs48
     replace f_r__owners := f_r__owners.step hz; replace f_r__costs := f_r__costs.step hz; replace f_y39 := f_y39.step hz
     refine ⟨_, (show Closes [] _ _ from rfl), [(Value.bool v_1)], ⟨rfl, trivial⟩, hs48.ext, ?_⟩
     exact Vr.eq (a := vB) (x := v_1) rfl (Option.some.inj hm)
    ·
     intro K46 hK46
     have ch52 := Step.refl (ks [(some b1, Obj.cells [(Value.int .i64 r_.slots), (Value.slice a_r__owners r_.owners.length c_r__owners), (Value.slice a_r__costs r_.costs.length c_r__costs)].toArray 25)] O) w30
     refine Wp_region ?_
     refine Rg_op rfl (op_move (v := (Value.slice a_y39 best_1.1.length c_y39)) rfl ?_)
     refine Rg_op rfl (op_len Try.underlying22 rfl ?_)
     have rl53 := inK_len f_y39
     refine Rg_op rfl (op_eql rfl rfl ?_)
     refine Rg_op rfl (op_move (v := (Value.bool (decide ((best_1.1.length : Int) = 0)))) rfl ?_)
     refine Rg_case (fun hg54 => ?_) (fun hg54 => ?_)
     ·
      replace hm := bif_t hm hg54
      refine Rg_opg rfl rfl rfl (op_move (v := (Value.int .i64 best_1.2)) rfl ?_)
      refine Rg_opg rfl rfl rfl (op_eql rfl rfl ?_)
      refine Rg_opg rfl rfl rfl (op_move (v := (Value.bool (decide (best_1.2 = 380)))) rfl ?_)
      refine Rg_case (fun hg55 => ?_) (fun hg55 => ?_)
      ·
       replace hm := bif_t hm hg55
       refine Rg_opg rfl rfl rfl (op_loadA (cs := [(Value.int .i64 r_.slots), (Value.slice a_r__owners r_.owners.length c_r__owners), (Value.slice a_r__costs r_.costs.length c_r__costs)]) (vs := [(Value.int .i64 r_.slots), (Value.slice a_r__owners r_.owners.length c_r__owners), (Value.slice a_r__costs r_.costs.length c_r__costs)]) (i := 0) ty25 hs33 rfl rfl rfl rfl ?_)
       replace hm := bd hm; obtain ⟨check_1, hv56, hm⟩ := hm
       refine Rg_opg rfl rfl rfl (op_call Try.call25 (c25_coalition_Check (r_ := r_) hs33.ltw r_r__slots f_r__owners f_r__costs hv56) rfl ?_)
       rintro v57 w58 ⟨hx59, h60⟩
       have hs61 := hs33.call hx59
       have p62 := Step.ext (O := ks [(some b1, Obj.cells [(Value.int .i64 r_.slots), (Value.slice a_r__owners r_.owners.length c_r__owners), (Value.slice a_r__costs r_.costs.length c_r__costs)].toArray 25)] O) hx59
       clear hx59
       replace f_r__owners := f_r__owners.step p62; replace f_r__costs := f_r__costs.step p62; replace f_y39 := f_y39.step p62; replace ch52 := ch52.trans p62; clear p62 hs33
       obtain ⟨rfl, r_y63⟩ := h60
       refine Rg_opg rfl rfl rfl (op_eql rfl rfl ?_)
       refine Rg_opg rfl rfl rfl (op_pick_t (v := (Value.bool (decide (check_1 = 0)))) rfl rfl ?_)
       refine Rg_opg rfl rfl rfl (op_move (v := (Value.bool (decide (check_1 = 0)))) rfl ?_)
       refine Rg_case (fun hg64 => ?_) (fun hg64 => ?_)
       ·
        replace hm := bif_t hm hg64
        iterate 4 refine Rg_opx rfl (asB_ne rfl rfl) rfl ?_
        refine Rg_opg rfl rfl rfl (op_pick_t (v := (Value.bool true)) rfl rfl ?_)
        refine Rg_op rfl (op_pick_t (v := (Value.bool true)) rfl rfl ?_)
        refine Rg_op rfl (op_assign (v := (Value.bool true)) rfl ?_)
        refine Rg_nil ?_
        exact hK46 _ _ ⟨true, _, rfl, ⟨(by repeat (first | with_reducible exact Out.refl _ _ | refine Out.upd ?_ rfl | refine Out.updL ?_ rfl | refine Out.mix' ?_ rfl | exact Out.refl _ _)), rfl, rfl, trivial⟩, ch52, hs61, hm⟩
       ·
        replace hm := bif_f hm hg64
        refine Rg_opg rfl rfl rfl (op_move (v := (Value.int .i64 best_1.2)) rfl ?_)
        refine Rg_opg rfl rfl rfl (op_loadA (cs := [(Value.int .i64 r_.slots), (Value.slice a_r__owners r_.owners.length c_r__owners), (Value.slice a_r__costs r_.costs.length c_r__costs)]) (vs := [(Value.int .i64 r_.slots), (Value.slice a_r__owners r_.owners.length c_r__owners), (Value.slice a_r__costs r_.costs.length c_r__costs)]) (i := 0) ty25 hs61 rfl rfl rfl rfl ?_)
        replace hm := bd hm; obtain ⟨check_2, hv65, hm⟩ := hm
        refine Rg_opg rfl rfl rfl (op_call Try.call25 (c25_coalition_Check (r_ := r_) hs61.ltw r_r__slots f_r__owners f_r__costs hv65) rfl ?_)
        rintro v66 w67 ⟨hx68, h69⟩
        have hs70 := hs61.call hx68
        have p71 := Step.ext (O := ks [(some b1, Obj.cells [(Value.int .i64 r_.slots), (Value.slice a_r__owners r_.owners.length c_r__owners), (Value.slice a_r__costs r_.costs.length c_r__costs)].toArray 25)] O) hx68
        clear hx68
        replace f_r__owners := f_r__owners.step p71; replace f_r__costs := f_r__costs.step p71; replace f_y39 := f_y39.step p71; replace ch52 := ch52.trans p71; clear p71 hs61
        obtain ⟨rfl, r_y72⟩ := h69
        refine Rg_opg rfl rfl rfl (op_eql rfl rfl ?_)
        refine Rg_opg rfl rfl rfl (op_pick_f (v := (Value.bool (decide (best_1.2 = check_2)))) rfl rfl ?_)
        refine Rg_op rfl (op_pick_t (v := (Value.bool (decide (best_1.2 = check_2)))) rfl rfl ?_)
        refine Rg_op rfl (op_assign (v := (Value.bool (decide (best_1.2 = check_2)))) rfl ?_)
        refine Rg_nil ?_
        exact hK46 _ _ ⟨(decide (best_1.2 = check_2)), _, rfl, ⟨(by repeat (first | with_reducible exact Out.refl _ _ | refine Out.upd ?_ rfl | refine Out.updL ?_ rfl | refine Out.mix' ?_ rfl | exact Out.refl _ _)), rfl, rfl, trivial⟩, ch52, hs70, hm⟩
      ·
       replace hm := bif_f hm hg55
       iterate 3 refine Rg_opx rfl (asB_ne rfl rfl) rfl ?_
       refine Rg_opg rfl rfl rfl (op_pick_f (v := (Value.bool false)) rfl rfl ?_)
       refine Rg_opg rfl rfl rfl (op_move (v := (Value.bool false)) rfl ?_)
       refine Rg_opg rfl rfl rfl (op_move (v := (Value.int .i64 best_1.2)) rfl ?_)
       refine Rg_opg rfl rfl rfl (op_loadA (cs := [(Value.int .i64 r_.slots), (Value.slice a_r__owners r_.owners.length c_r__owners), (Value.slice a_r__costs r_.costs.length c_r__costs)]) (vs := [(Value.int .i64 r_.slots), (Value.slice a_r__owners r_.owners.length c_r__owners), (Value.slice a_r__costs r_.costs.length c_r__costs)]) (i := 0) ty25 hs33 rfl rfl rfl rfl ?_)
       replace hm := bd hm; obtain ⟨check_3, hv73, hm⟩ := hm
       refine Rg_opg rfl rfl rfl (op_call Try.call25 (c25_coalition_Check (r_ := r_) hs33.ltw r_r__slots f_r__owners f_r__costs hv73) rfl ?_)
       rintro v74 w75 ⟨hx76, h77⟩
       have hs78 := hs33.call hx76
       have p79 := Step.ext (O := ks [(some b1, Obj.cells [(Value.int .i64 r_.slots), (Value.slice a_r__owners r_.owners.length c_r__owners), (Value.slice a_r__costs r_.costs.length c_r__costs)].toArray 25)] O) hx76
       clear hx76
       replace f_r__owners := f_r__owners.step p79; replace f_r__costs := f_r__costs.step p79; replace f_y39 := f_y39.step p79; replace ch52 := ch52.trans p79; clear p79 hs33
       obtain ⟨rfl, r_y80⟩ := h77
       refine Rg_opg rfl rfl rfl (op_eql rfl rfl ?_)
       refine Rg_opg rfl rfl rfl (op_pick_f (v := (Value.bool (decide (best_1.2 = check_3)))) rfl rfl ?_)
       refine Rg_op rfl (op_pick_t (v := (Value.bool (decide (best_1.2 = check_3)))) rfl rfl ?_)
       refine Rg_op rfl (op_assign (v := (Value.bool (decide (best_1.2 = check_3)))) rfl ?_)
       refine Rg_nil ?_
       exact hK46 _ _ ⟨(decide (best_1.2 = check_3)), _, rfl, ⟨(by repeat (first | with_reducible exact Out.refl _ _ | refine Out.upd ?_ rfl | refine Out.updL ?_ rfl | refine Out.mix' ?_ rfl | exact Out.refl _ _)), rfl, rfl, trivial⟩, ch52, hs78, hm⟩
     ·
      replace hm := bif_f hm hg54
      iterate 13 refine Rg_opx rfl (asB_ne rfl rfl) rfl ?_
      refine Rg_op rfl (op_pick_f (v := (Value.bool false)) rfl rfl ?_)
      refine Rg_op rfl (op_assign (v := (Value.bool false)) rfl ?_)
      refine Rg_nil ?_
      exact hK46 _ _ ⟨false, _, rfl, ⟨(by repeat (first | with_reducible exact Out.refl _ _ | refine Out.upd ?_ rfl | refine Out.updL ?_ rfl | refine Out.mix' ?_ rfl | exact Out.refl _ _)), rfl, rfl, trivial⟩, ch52, hs33, hm⟩
   ·
    replace hm := bif_f hm hc41
    refine Wp_skip ?_
    refine Wp_seq ?_
    refine Wp_region ?_
    refine Rg_op rfl (op_loadA (cs := [(Value.int .i64 r_.slots), (Value.slice a_r__owners r_.owners.length c_r__owners), (Value.slice a_r__costs r_.costs.length c_r__costs)]) (vs := [(Value.int .i64 r_.slots), (Value.slice a_r__owners r_.owners.length c_r__owners), (Value.slice a_r__costs r_.costs.length c_r__costs)]) (i := 0) ty25 hs33 rfl rfl rfl rfl ?_)
    refine Rg_op rfl (op_move (v := (Value.slice a_y39 best_1.1.length c_y39)) rfl ?_)
    replace hm := bd hm; obtain ⟨allowed_1, hv81, hm⟩ := hm
    refine Rg_op rfl (op_call Try.call26 (c26_coalition_Allowed (r_ := r_) (slots := best_1.1) hs33.ltw r_r__slots f_r__owners f_r__costs f_y39 hv81) rfl ?_)
    rintro v82 w83 ⟨hx84, h85⟩
    have hs86 := hs33.call hx84
    have p87 := Step.ext (O := ks [(some b1, Obj.cells [(Value.int .i64 r_.slots), (Value.slice a_r__owners r_.owners.length c_r__owners), (Value.slice a_r__costs r_.costs.length c_r__costs)].toArray 25)] O) hx84
    clear hx84
    replace f_r__owners := f_r__owners.step p87; replace f_r__costs := f_r__costs.step p87; replace f_y39 := f_y39.step p87; clear p87 hs33
    obtain ⟨v88, v89, rfl, h90, h91⟩ := h85
    obtain rfl := h90
    obtain ⟨rfl, r_y93⟩ := h91
    refine Rg_op rfl (op_move (v := (Value.tuple [(Value.bool allowed_1.1), (Value.int .i64 allowed_1.2)].toArray)) rfl ?_)
    refine Rg_op rfl (op_extract (v := (Value.bool allowed_1.1)) rfl rfl ?_)
    refine Rg_op rfl (op_extract (v := (Value.int .i64 allowed_1.2)) rfl rfl ?_)
    refine Rg_op rfl (op_assign (v := (Value.bool allowed_1.1)) rfl ?_)
    refine Rg_op rfl (op_assign (v := (Value.int .i64 allowed_1.2)) rfl ?_)
    refine Rg_nil ?_
    refine Wp_seq ?_
    refine Wp_reset [] [(1, (Value.pointer (some ⟨b1, 0, none⟩))), (3, (Value.slice a_y39 best_1.1.length c_y39)), (5, (Value.bool allowed_1.1)), (6, (Value.int .i64 allowed_1.2))] rfl ⟨rfl, rfl, rfl, rfl, trivial⟩ fun ξ94 => ?_
    refine Wp_region ?_
    refine Rg_op rfl (op_loadA (cs := [(Value.int .i64 r_.slots), (Value.slice a_r__owners r_.owners.length c_r__owners), (Value.slice a_r__costs r_.costs.length c_r__costs)]) (vs := [(Value.int .i64 r_.slots), (Value.slice a_r__owners r_.owners.length c_r__owners), (Value.slice a_r__costs r_.costs.length c_r__costs)]) (i := 0) ty25 hs86 rfl rfl rfl rfl ?_)
    refine Rg_op rfl (op_move (v := (Value.slice a_y39 best_1.1.length c_y39)) rfl ?_)
    replace hm := bd hm; obtain ⟨worse_1, hv95, hm⟩ := hm
    refine Rg_op rfl (op_call Try.call27 (c27_coalition_Worse (r_ := r_) (slots := best_1.1) hs86.ltw r_r__slots f_r__owners f_r__costs f_y39 hv95) rfl ?_)
    rintro v96 w97 ⟨hx98, h99⟩
    have hs100 := hs86.call hx98
    have p101 := Step.ext (O := ks [(some b1, Obj.cells [(Value.int .i64 r_.slots), (Value.slice a_r__owners r_.owners.length c_r__owners), (Value.slice a_r__costs r_.costs.length c_r__costs)].toArray 25)] O) hx98
    clear hx98
    replace f_r__owners := f_r__owners.step p101; replace f_r__costs := f_r__costs.step p101; replace f_y39 := f_y39.step p101; clear p101 hs86
    obtain ⟨v102, v103, rfl, h104, h105⟩ := h99
    obtain ⟨a_y106, c_y106, rfl, f_y106⟩ := un_sl h104
    obtain ⟨rfl, r_y107⟩ := h105
    refine Rg_op rfl (op_move (v := (Value.tuple [(Value.slice a_y106 worse_1.1.length c_y106), (Value.int .i64 worse_1.2)].toArray)) rfl ?_)
    refine Rg_op rfl (op_extract (v := (Value.slice a_y106 worse_1.1.length c_y106)) rfl rfl ?_)
    refine Rg_op rfl (op_extract (v := (Value.int .i64 worse_1.2)) rfl rfl ?_)
    refine Rg_op rfl (op_assign (v := (Value.slice a_y106 worse_1.1.length c_y106)) rfl ?_)
    refine Rg_op rfl (op_assign (v := (Value.int .i64 worse_1.2)) rfl ?_)
    refine Rg_nil ?_
    refine Wp_seq ?_
    refine Wp_reset [] [(1, (Value.pointer (some ⟨b1, 0, none⟩))), (3, (Value.slice a_y39 best_1.1.length c_y39)), (5, (Value.bool allowed_1.1)), (6, (Value.int .i64 allowed_1.2)), (7, (Value.slice a_y106 worse_1.1.length c_y106)), (8, (Value.int .i64 worse_1.2))] rfl ⟨rfl, rfl, rfl, rfl, rfl, rfl, trivial⟩ fun ξ108 => ?_
    replace hm := jn_elim hm; obtain ⟨k110, hk111, hm⟩ := hm
    refine Wp_seqJ [57, 58, 59, 60, 61, 62, 63, 64, 65, 66, 67, 68, 69, 70, 71] (fun fr w' => ∃ (v_2 : Bool) (Ebs : Ents), Ebs = [(some b1, Obj.cells [(Value.int .i64 r_.slots), (Value.slice a_r__owners r_.owners.length c_r__owners), (Value.slice a_r__costs r_.costs.length c_r__costs)].toArray 25)] ∧ fr [] [(71, (Value.bool v_2))] ∧ Step (ks [(some b1, Obj.cells [(Value.int .i64 r_.slots), (Value.slice a_r__owners r_.owners.length c_r__owners), (Value.slice a_r__costs r_.costs.length c_r__costs)].toArray 25)] O) w97 (ks Ebs O) w' ∧ St ⟨w, [], []⟩ O w' Ebs ∧ k110 v_2 = some x) ?_ ?_
    ·
     rintro ρ117 w113 ⟨v_2, Ebs, hEbs, hfr116, hst115, hs114, hm⟩
     replace hm := jnE1 hk111 hm
     subst hEbs; rw [hfr116.eq]; clear hfr116
     replace f_r__owners := f_r__owners.step hst115; replace f_r__costs := f_r__costs.step hst115; replace f_y39 := f_y39.step hst115; replace f_y106 := f_y106.step hst115; clear hst115 hs100
     refine Wp_cond rfl (fun hc118 => ?_) (fun hc118 => ?_)
     ·
      replace hm := bif_t hm hc118
      refine Wp_seq ?_
      obtain ⟨hs119, p120⟩ := hs114.sub (bs' := []) (.cons _ List.Sublist.slnil)
      clear f_r__owners f_r__costs f_y39 f_y106
      clear p120 hs114
      refine Wp_region ?_
      refine Rg_op rfl (op_assign (v := (Value.bool false)) rfl ?_)
      refine Rg_nil ?_
      refine Wp_ret ?_
      have hz := step_all hs119
      refine ⟨_, (show Closes [] _ _ from rfl), [(Value.bool false)], ⟨rfl, trivial⟩, hs119.ext, ?_⟩
      exact Vr.eq (a := vB) (x := false) rfl (Option.some.inj hm)
     ·
      replace hm := bif_f hm hc118
      refine Wp_skip ?_
      refine Wp_seq ?_
      refine Wp_seq ?_
      clear f_y106
      refine Wp_region ?_
      refine Rg_op rfl (op_assign (v := (Value.int .i64 1)) rfl ?_)
      refine Rg_nil ?_
      refine Wp_block ?_
      refine Wp_reset [] [(1, (Value.pointer (some ⟨b1, 0, none⟩))), (3, (Value.slice a_y39 best_1.1.length c_y39)), (9, (Value.int .i64 1))] rfl ⟨rfl, rfl, rfl, trivial⟩ fun ξ122 => ?_
      refine Wp_loopM [2, 9, 10, 11, 12, 13, 14, 72, 73, 74, 75, 76, 77, 78, 79, 80, 81, 82, 83, 84, 85, 86, 87, 88, 89, 90, 91, 92, 93, 94, 95, 96, 97, 98, 99, 100, 101] (fun m fr w' => ∃ (mask_1 : Int) (Ebs : Ents), Ebs = [(some b1, Obj.cells [(Value.int .i64 r_.slots), (Value.slice a_r__owners r_.owners.length c_r__owners), (Value.slice a_r__costs r_.costs.length c_r__costs)].toArray 25)] ∧ fr [] [(9, (Value.int .i64 mask_1))] ∧ Step (ks [(some b1, Obj.cells [(Value.int .i64 r_.slots), (Value.slice a_r__owners r_.owners.length c_r__owners), (Value.slice a_r__costs r_.costs.length c_r__costs)].toArray 25)] O) w113 (ks Ebs O) w' ∧ St ⟨w, [], []⟩ O w' Ebs ∧ InK .i64 mask_1 ∧ loop1 (m9_overflightlaw38_ClearingFair_B0 r_ best_1) m mask_1 = some x) (((256 : Int) - 1).toNat + 1) ⟨1, _, rfl, ⟨Out.refl _ _, rfl, rfl, trivial⟩, Step.refl _ _, hs114, (show InK .i64 1 from by decide), hm⟩ ?_ ?_
      · rintro _ _ ⟨_, _, _, _, _, _, _, hm⟩; exact loop1_z hm
      ·
       rintro m126 K125 hK125 ρ131 w127 ⟨mask_1, Ebs, hEbs, hfr130, hst129, hs128, r_y121, hm⟩
       obtain ⟨sf123, hsf124, hm⟩ := loop1_s hm; unfold m9_overflightlaw38_ClearingFair_B0 at hm
       subst hEbs; rw [hfr130.eq]; clear hfr130
       replace f_r__owners := f_r__owners.step hst129; replace f_r__costs := f_r__costs.step hst129; replace f_y39 := f_y39.step hst129
       have ch132 := hst129
       refine Wp_seq ?_
       refine Wp_seq ?_
       refine Wp_region ?_
       refine Rg_op rfl (op_move (v := (Value.int .i64 mask_1)) rfl ?_)
       refine Rg_op rfl (op_lss rfl rfl ?_)
       refine Rg_nil ?_
       refine Wp_cond rfl (fun hc133 => ?_) (fun hc133 => ?_)
       ·
        replace hm := bif_t hm hc133
        refine Wp_skip ?_
        refine Wp_seq ?_
        refine Wp_block ?_
        refine Wp_seq ?_
        refine Wp_region ?_
        refine Rg_op rfl (op_assign (v := (Value.slice none 0 0)) rfl ?_)
        refine Rg_nil ?_
        refine Wp_seq ?_
        refine Wp_seq ?_
        refine Wp_region ?_
        refine Rg_op rfl (op_move (v := (Value.int .i64 0)) rfl ?_)
        refine Rg_nil ?_
        refine Wp_block ?_
        refine Wp_reset2 [2, 9, 10, 11, 12, 13, 14, 72, 73, 74, 75, 76, 77, 78, 79, 80, 81, 82, 83, 84, 85, 86, 87, 88, 89, 90, 91, 92, 93, 94, 95, 96, 97, 98, 99, 100, 101] [] (updL ⟨ξ122, []⟩ [(1, (Value.pointer (some ⟨b1, 0, none⟩))), (3, (Value.slice a_y39 best_1.1.length c_y39)), (9, (Value.int .i64 1))]) [(9, (Value.int .i64 mask_1)), (10, (Value.slice none 0 0)), (76, (Value.int .i64 0))] (by repeat (first | with_reducible exact Out.refl _ _ | refine Out.upd ?_ rfl | refine Out.updL ?_ rfl | refine Out.mix' ?_ rfl | exact Out.refl _ _)) rfl ⟨rfl, rfl, rfl, trivial⟩ fun ξ137 => ?_
        have hs142 := hs128.ghost (Obj.cells #[] 3)
        refine Wp_loopM [10, 11, 76, 77, 78, 79, 80, 81, 82, 83, 84, 85, 86, 87, 88] (fun m fr w' => ∃ (group_1 : List Int) (v_3 : Int) (a_g135 : Option Addr) (c_g135 : Nat) (k_g135 : Option Nat) (o_g135 : Obj) (Ebs : Ents), Ebs = [(k_g135, o_g135), (some b1, Obj.cells [(Value.int .i64 r_.slots), (Value.slice a_r__owners r_.owners.length c_r__owners), (Value.slice a_r__costs r_.costs.length c_r__costs)].toArray 25)] ∧ fr [] [(10, (Value.slice a_g135 group_1.length c_g135)), (76, (Value.int .i64 v_3))] ∧ Step (ks [(none, (Obj.cells #[] 3)), (some b1, Obj.cells [(Value.int .i64 r_.slots), (Value.slice a_r__owners r_.owners.length c_r__owners), (Value.slice a_r__costs r_.costs.length c_r__costs)].toArray 25)] O) w127 (ks Ebs O) w' ∧ St ⟨w, [], []⟩ O w' Ebs ∧ Gs (rInt .i64) 3 w' (ks Ebs O) a_g135 c_g135 group_1 k_g135 o_g135 ∧ InK .i64 v_3 ∧ loop2 (m9_overflightlaw38_ClearingFair_B1 r_ best_1 mask_1 sf123) m group_1 v_3 = some x) (((8 : Int) - 0).toNat + 1) ⟨([] : List Int), 0, none, 0, none, (Obj.cells #[] 3), _, rfl, ⟨Out.refl _ _, rfl, rfl, rfl, trivial⟩, Step.refl _ _, hs142, Gs.nil_, (show InK .i64 0 from by decide), hm⟩ ?_ ?_
        · rintro _ _ ⟨_, _, _, _, _, _, _, _, _, _, _, _, _, hm⟩; exact loop2_z hm
        ·
         rintro m141 K140 hK140 ρ148 w144 ⟨group_1, v_3, a_g135, c_g135, k_g135, o_g135, Ebs, hEbs, hfr147, hst146, hs145, f_g135, r_y136, hm⟩
         obtain ⟨sf138, hsf139, hm⟩ := loop2_s hm; unfold m9_overflightlaw38_ClearingFair_B1 at hm
         subst hEbs; rw [hfr147.eq]; clear hfr147
         replace f_r__owners := f_r__owners.step hst146; replace f_r__costs := f_r__costs.step hst146; replace f_y39 := f_y39.step hst146; replace ch132 := ch132.trans hst146
         have ch149 := hst146
         refine Wp_seq ?_
         refine Wp_region ?_
         refine Rg_op rfl (op_lss rfl rfl ?_)
         refine Rg_nil ?_
         refine Wp_seq ?_
         refine Wp_cond rfl (fun hc150 => ?_) (fun hc150 => ?_)
         ·
          replace hm := bif_t hm hc150
          refine Wp_skip ?_
          refine Wp_seq ?_
          refine Wp_block ?_
          refine Wp_seq ?_
          refine Wp_region ?_
          refine Rg_op rfl (op_move (v := (Value.int .i64 v_3)) rfl ?_)
          refine Rg_op rfl (op_assign (v := (Value.int .i64 v_3)) rfl ?_)
          refine Rg_nil ?_
          refine Wp_seq ?_
          refine Wp_region ?_
          refine Rg_op rfl (op_move (v := (Value.int .i64 mask_1)) rfl ?_)
          refine Rg_op rfl (op_move (v := (Value.int .i64 v_3)) rfl ?_)
          replace hm := ck_some hm; obtain ⟨hc151, hm⟩ := hm
          refine Rg_op rfl (op_shr rfl rfl hc151 ?_)
          refine Rg_op rfl (op_and rfl rfl ?_)
          refine Rg_op rfl (op_eql rfl rfl ?_)
          refine Rg_nil ?_
          refine Wp_cond rfl (fun hc152 => ?_) (fun hc152 => ?_)
          ·
           replace hm := bif_t hm hc152
           refine Wp_region ?_
           refine Rg_op rfl (op_move (v := (Value.slice a_g135 group_1.length c_g135)) rfl ?_)
           refine Rg_op rfl (op_move (v := (Value.int .i64 v_3)) rfl ?_)
           refine Rg_op rfl (op_buildSlice (cs := [(Value.int .i64 v_3)]) (parts := [(0, .tmp 85)]) ty22 ty3 hs145 (by decide) rfl ?_)
           intro b153 w154 hx157 p155 hs156
           replace f_r__owners := f_r__owners.step p155; replace f_r__costs := f_r__costs.step p155; replace f_y39 := f_y39.step p155; replace f_g135 := f_g135.step p155; replace ch132 := ch132.trans p155; replace ch149 := ch149.trans p155; clear p155 hs145
           replace hm := ck_some hm; obtain ⟨hc159, hm⟩ := hm
           refine Rg_op rfl (op_append (q := (rInt .i64)) (i := 1) (xs := group_1) (ys := [v_3]) (news := [(Value.int .i64 v_3)]) ty22 ty3 rfl (by decide) hs156 rfl rfl f_g135 rfl (Src.owned' (len := 1) (hs156.get (i := 0) rfl) rfl) (show Els (rInt .i64) _ _ [(Value.int .i64 v_3)] [v_3] from ⟨_, _, rfl, (mk_int r_y136), Els.nil⟩) hc159 (by have := hc159; simp only [maxLen]; omega) ?_)
           intro a163 c164 k165 o166 w160 p161 hs162 f167
           replace f_r__owners := f_r__owners.step p161; replace f_r__costs := f_r__costs.step p161; replace f_y39 := f_y39.step p161; replace ch132 := ch132.trans p161; replace ch149 := ch149.trans p161; clear p161 hs156
           have hs168 := hs162.drop 0
           replace f_r__owners := f_r__owners.step (hs162.dropS 0)
           replace f_r__costs := f_r__costs.step (hs162.dropS 0)
           replace f_y39 := f_y39.step (hs162.dropS 0)
           replace f167 := f167.step (hs162.dropS 0)
           replace ch132 := ch132.trans (hs162.dropS 0)
           replace ch149 := ch149.trans (hs162.dropS 0); clear hs162
           refine Rg_op rfl (op_assign (v := (Value.slice a163 (group_1 ++ [v_3]).length c164)) rfl ?_)
           refine Rg_nil ?_
           refine Wp_region ?_
           refine Rg_op rfl (op_addw rfl rfl ?_)
           refine Rg_op rfl (op_move (v := (Value.int .i64 (IntKind.wrap .i64 (v_3 + 1)))) rfl ?_)
           refine Rg_nil ?_
           exact hK140 _ _ ⟨(group_1 ++ [v_3]), (IntKind.wrap .i64 (v_3 + 1)), a163, c164, k165, o166, _, rfl, ⟨(by repeat (first | with_reducible exact Out.refl _ _ | refine Out.upd ?_ rfl | refine Out.updL ?_ rfl | refine Out.mix' ?_ rfl | exact Out.refl _ _)), rfl, rfl, rfl, trivial⟩, ch149, hs168, f167, (inK_wrap .i64 _), jnE2 hsf139 hm⟩
          ·
           replace hm := bif_f hm hc152
           refine Wp_skip ?_
           refine Wp_region ?_
           refine Rg_op rfl (op_addw rfl rfl ?_)
           refine Rg_op rfl (op_move (v := (Value.int .i64 (IntKind.wrap .i64 (v_3 + 1)))) rfl ?_)
           refine Rg_nil ?_
           exact hK140 _ _ ⟨group_1, (IntKind.wrap .i64 (v_3 + 1)), a_g135, c_g135, k_g135, o_g135, _, rfl, ⟨(by repeat (first | with_reducible exact Out.refl _ _ | refine Out.upd ?_ rfl | refine Out.updL ?_ rfl | refine Out.mix' ?_ rfl | exact Out.refl _ _)), rfl, rfl, rfl, trivial⟩, ch149, hs145, f_g135, (inK_wrap .i64 _), jnE2 hsf139 hm⟩
         ·
          replace hm := bif_f hm hc150
          refine Wp_exit ?_
          refine Wp_seq ?_
          refine Wp_region ?_
          refine Rg_op rfl (op_loadA (cs := [(Value.int .i64 r_.slots), (Value.slice a_r__owners r_.owners.length c_r__owners), (Value.slice a_r__costs r_.costs.length c_r__costs)]) (vs := [(Value.int .i64 r_.slots), (Value.slice a_r__owners r_.owners.length c_r__owners), (Value.slice a_r__costs r_.costs.length c_r__costs)]) (i := 1) ty25 hs145 rfl rfl rfl rfl ?_)
          refine Rg_op rfl (op_move (v := (Value.slice a_y39 best_1.1.length c_y39)) rfl ?_)
          refine Rg_op rfl (op_move (v := (Value.slice a_g135 group_1.length c_g135)) rfl ?_)
          obtain ⟨hs170, p171, f169⟩ := Gs.publish (i := 0) hs145 rfl f_g135
          replace f_r__owners := f_r__owners.step p171; replace f_r__costs := f_r__costs.step p171; replace f_y39 := f_y39.step p171; replace ch132 := ch132.trans p171; replace ch149 := ch149.trans p171; clear p171 hs145
          replace hm := bd hm; obtain ⟨blocks_1, hv172, hm⟩ := hm
          refine Rg_op rfl (op_call Try.call28 (c28_coalition_Blocks (r_ := r_) (slots := best_1.1) (group := group_1) hs170.ltw r_r__slots f_r__owners f_r__costs f_y39 f169 hv172) rfl ?_)
          rintro v173 w174 ⟨hx175, h176⟩
          have hs177 := hs170.call hx175
          have p178 := Step.ext (O := ks [(some b1, Obj.cells [(Value.int .i64 r_.slots), (Value.slice a_r__owners r_.owners.length c_r__owners), (Value.slice a_r__costs r_.costs.length c_r__costs)].toArray 25)] O) hx175
          clear hx175
          replace f_r__owners := f_r__owners.step p178; replace f_r__costs := f_r__costs.step p178; replace f_y39 := f_y39.step p178; replace f169 := f169.step p178; replace ch132 := ch132.trans p178; replace ch149 := ch149.trans p178; clear p178 hs170
          obtain ⟨v179, v180, v181, rfl, h182, h183, h184⟩ := h176
          obtain ⟨a_y185, c_y185, rfl, f_y185⟩ := un_sl h182
          obtain rfl := h183
          obtain ⟨rfl, r_y187⟩ := h184
          refine Rg_op rfl (op_move (v := (Value.tuple [(Value.slice a_y185 blocks_1.1.length c_y185), (Value.bool blocks_1.2.1), (Value.int .i64 blocks_1.2.2)].toArray)) rfl ?_)
          refine Rg_op rfl (op_extract (v := (Value.slice a_y185 blocks_1.1.length c_y185)) rfl rfl ?_)
          refine Rg_op rfl (op_extract (v := (Value.bool blocks_1.2.1)) rfl rfl ?_)
          refine Rg_op rfl (op_extract (v := (Value.int .i64 blocks_1.2.2)) rfl rfl ?_)
          refine Rg_op rfl (op_assign (v := (Value.slice a_y185 blocks_1.1.length c_y185)) rfl ?_)
          refine Rg_op rfl (op_assign (v := (Value.bool blocks_1.2.1)) rfl ?_)
          refine Rg_op rfl (op_assign (v := (Value.int .i64 blocks_1.2.2)) rfl ?_)
          refine Rg_nil ?_
          refine Wp_reset2 [2, 9, 10, 11, 12, 13, 14, 72, 73, 74, 75, 76, 77, 78, 79, 80, 81, 82, 83, 84, 85, 86, 87, 88, 89, 90, 91, 92, 93, 94, 95, 96, 97, 98, 99, 100, 101] [] (updL ⟨ξ122, []⟩ [(1, (Value.pointer (some ⟨b1, 0, none⟩))), (3, (Value.slice a_y39 best_1.1.length c_y39)), (9, (Value.int .i64 1))]) [(9, (Value.int .i64 mask_1)), (13, (Value.bool blocks_1.2.1)), (14, (Value.int .i64 blocks_1.2.2))] (by repeat (first | with_reducible exact Out.refl _ _ | refine Out.upd ?_ rfl | refine Out.updL ?_ rfl | refine Out.mix' ?_ rfl | exact Out.refl _ _)) rfl ⟨rfl, rfl, rfl, trivial⟩ fun ξ188 => ?_
          replace hm := jn_elim hm; obtain ⟨k190, hk191, hm⟩ := hm
          refine Wp_seqJ [97, 98, 99, 100, 101] (fun fr w' => ∃ (v_4 : Bool) (Ebs : Ents), Ebs = [(some b1, Obj.cells [(Value.int .i64 r_.slots), (Value.slice a_r__owners r_.owners.length c_r__owners), (Value.slice a_r__costs r_.costs.length c_r__costs)].toArray 25)] ∧ fr [] [(101, (Value.bool v_4))] ∧ Step (ks [(some b1, Obj.cells [(Value.int .i64 r_.slots), (Value.slice a_r__owners r_.owners.length c_r__owners), (Value.slice a_r__costs r_.costs.length c_r__costs)].toArray 25)] O) w174 (ks Ebs O) w' ∧ St ⟨w, [], []⟩ O w' Ebs ∧ k190 v_4 = some x) ?_ ?_
          ·
           rintro ρ197 w193 ⟨v_4, Ebs, hEbs, hfr196, hst195, hs194, hm⟩
           replace hm := jnE1 hk191 hm
           subst hEbs; rw [hfr196.eq]; clear hfr196
           replace f_r__owners := f_r__owners.step hst195; replace f_r__costs := f_r__costs.step hst195; replace f_y39 := f_y39.step hst195; replace f169 := f169.step hst195; replace f_y185 := f_y185.step hst195; replace ch132 := ch132.trans hst195; replace ch149 := ch149.trans hst195; clear hst195 hs177
           refine Wp_cond rfl (fun hc198 => ?_) (fun hc198 => ?_)
           ·
            replace hm := bif_t hm hc198
            refine Wp_seq ?_
            clear f_y39 f169 f_y185
            refine Wp_region ?_
            refine Rg_op rfl (op_assign (v := (Value.bool false)) rfl ?_)
            refine Rg_nil ?_
            refine Wp_ret ?_
            have hz := step_all hs194
            replace f_r__owners := f_r__owners.step hz; replace f_r__costs := f_r__costs.step hz
            refine ⟨_, (show Closes [] _ _ from rfl), [(Value.bool false)], ⟨rfl, trivial⟩, hs194.ext, ?_⟩
            exact Vr.eq (a := vB) (x := false) rfl (Option.some.inj hm)
           ·
            replace hm := bif_f hm hc198
            refine Wp_skip ?_
            clear f169 f_y185
            refine Wp_region ?_
            refine Rg_op rfl (op_move (v := (Value.int .i64 mask_1)) rfl ?_)
            refine Rg_op rfl (op_addw rfl rfl ?_)
            refine Rg_op rfl (op_assign (v := (Value.int .i64 (IntKind.wrap .i64 (mask_1 + 1)))) rfl ?_)
            refine Rg_nil ?_
            exact hK125 _ _ ⟨(IntKind.wrap .i64 (mask_1 + 1)), _, rfl, ⟨(by repeat (first | with_reducible exact Out.refl _ _ | refine Out.upd ?_ rfl | refine Out.updL ?_ rfl | refine Out.mix' ?_ rfl | exact Out.refl _ _)), rfl, rfl, trivial⟩, ch132, hs194, (inK_wrap .i64 _), jnE1 hsf124 hm⟩
          ·
           intro K192 hK192
           have ch199 := Step.refl (ks [(some b1, Obj.cells [(Value.int .i64 r_.slots), (Value.slice a_r__owners r_.owners.length c_r__owners), (Value.slice a_r__costs r_.costs.length c_r__costs)].toArray 25)] O) w174
           clear f169 f_y185
           refine Wp_region ?_
           refine Rg_op rfl (op_move (v := (Value.int .i64 blocks_1.2.2)) rfl ?_)
           refine Rg_op rfl (op_neq rfl rfl ?_)
           refine Rg_op rfl (op_move (v := (Value.bool (decide (blocks_1.2.2 ≠ 0)))) rfl ?_)
           refine Rg_case (fun hg200 => ?_) (fun hg200 => ?_)
           ·
            replace hm := bif_t hm hg200
            refine Rg_opx rfl (asB_ne rfl rfl) rfl ?_
            refine Rg_op rfl (op_pick_t (v := (Value.bool true)) rfl rfl ?_)
            refine Rg_nil ?_
            exact hK192 _ _ ⟨true, _, rfl, ⟨(by repeat (first | with_reducible exact Out.refl _ _ | refine Out.upd ?_ rfl | refine Out.updL ?_ rfl | refine Out.mix' ?_ rfl | exact Out.refl _ _)), rfl, rfl, trivial⟩, ch199, hs177, hm⟩
           ·
            replace hm := bif_f hm hg200
            refine Rg_opg rfl rfl rfl (op_move (v := (Value.bool blocks_1.2.1)) rfl ?_)
            refine Rg_op rfl (op_pick_f (v := (Value.bool blocks_1.2.1)) rfl rfl ?_)
            refine Rg_nil ?_
            exact hK192 _ _ ⟨blocks_1.2.1, _, rfl, ⟨(by repeat (first | with_reducible exact Out.refl _ _ | refine Out.upd ?_ rfl | refine Out.updL ?_ rfl | refine Out.mix' ?_ rfl | exact Out.refl _ _)), rfl, rfl, trivial⟩, ch199, hs177, hm⟩
       ·
        replace hm := bif_f hm hc133
        refine Wp_exit ?_
        refine Wp_seq ?_
        obtain ⟨hs201, p202⟩ := hs128.sub (bs' := []) (.cons _ List.Sublist.slnil)
        clear f_r__owners f_r__costs f_y39
        replace ch132 := ch132.trans p202; clear p202 hs128
        refine Wp_region ?_
        refine Rg_op rfl (op_assign (v := (Value.bool true)) rfl ?_)
        refine Rg_nil ?_
        refine Wp_ret ?_
        have hz := step_all hs201
        refine ⟨_, (show Closes [] _ _ from rfl), [(Value.bool true)], ⟨rfl, trivial⟩, hs201.ext, ?_⟩
        exact Vr.eq (a := vB) (x := true) rfl (Option.some.inj hm)
    ·
     intro K112 hK112
     have ch203 := Step.refl (ks [(some b1, Obj.cells [(Value.int .i64 r_.slots), (Value.slice a_r__owners r_.owners.length c_r__owners), (Value.slice a_r__costs r_.costs.length c_r__costs)].toArray 25)] O) w97
     refine Wp_region ?_
     refine Rg_op rfl (op_move (v := (Value.int .i64 allowed_1.2)) rfl ?_)
     refine Rg_op rfl (op_neq rfl rfl ?_)
     refine Rg_op rfl (op_move (v := (Value.bool (decide (allowed_1.2 ≠ 0)))) rfl ?_)
     refine Rg_case (fun hg204 => ?_) (fun hg204 => ?_)
     ·
      replace hm := bif_t hm hg204
      iterate 2 refine Rg_opx rfl (asB_ne rfl rfl) rfl ?_
      refine Rg_op rfl (op_pick_t (v := (Value.bool true)) rfl rfl ?_)
      refine Rg_op rfl (op_move (v := (Value.bool true)) rfl ?_)
      iterate 2 refine Rg_opx rfl (asB_ne rfl rfl) rfl ?_
      refine Rg_op rfl (op_pick_t (v := (Value.bool true)) rfl rfl ?_)
      refine Rg_op rfl (op_move (v := (Value.bool true)) rfl ?_)
      iterate 3 refine Rg_opx rfl (asB_ne rfl rfl) rfl ?_
      refine Rg_op rfl (op_pick_t (v := (Value.bool true)) rfl rfl ?_)
      refine Rg_nil ?_
      exact hK112 _ _ ⟨true, _, rfl, ⟨(by repeat (first | with_reducible exact Out.refl _ _ | refine Out.upd ?_ rfl | refine Out.updL ?_ rfl | refine Out.mix' ?_ rfl | exact Out.refl _ _)), rfl, rfl, trivial⟩, ch203, hs100, hm⟩
     ·
      replace hm := bif_f hm hg204
      refine Rg_opg rfl rfl rfl (op_move (v := (Value.bool allowed_1.1)) rfl ?_)
      refine Rg_opg rfl rfl rfl (op_not rfl ?_)
      refine Rg_op rfl (op_pick_f (v := (Value.bool (!allowed_1.1))) rfl rfl ?_)
      refine Rg_op rfl (op_move (v := (Value.bool (!allowed_1.1))) rfl ?_)
      refine Rg_case (fun hg205 => ?_) (fun hg205 => ?_)
      ·
       replace hm := bif_t hm hg205
       iterate 2 refine Rg_opx rfl (asB_ne rfl rfl) rfl ?_
       refine Rg_op rfl (op_pick_t (v := (Value.bool true)) rfl rfl ?_)
       refine Rg_op rfl (op_move (v := (Value.bool true)) rfl ?_)
       iterate 3 refine Rg_opx rfl (asB_ne rfl rfl) rfl ?_
       refine Rg_op rfl (op_pick_t (v := (Value.bool true)) rfl rfl ?_)
       refine Rg_nil ?_
       exact hK112 _ _ ⟨true, _, rfl, ⟨(by repeat (first | with_reducible exact Out.refl _ _ | refine Out.upd ?_ rfl | refine Out.updL ?_ rfl | refine Out.mix' ?_ rfl | exact Out.refl _ _)), rfl, rfl, trivial⟩, ch203, hs100, hm⟩
      ·
       replace hm := bif_f hm hg205
       refine Rg_opg rfl rfl rfl (op_move (v := (Value.int .i64 worse_1.2)) rfl ?_)
       refine Rg_opg rfl rfl rfl (op_neq rfl rfl ?_)
       refine Rg_op rfl (op_pick_f (v := (Value.bool (decide (worse_1.2 ≠ 0)))) rfl rfl ?_)
       refine Rg_op rfl (op_move (v := (Value.bool (decide (worse_1.2 ≠ 0)))) rfl ?_)
       refine Rg_case (fun hg206 => ?_) (fun hg206 => ?_)
       ·
        replace hm := bif_t hm hg206
        iterate 3 refine Rg_opx rfl (asB_ne rfl rfl) rfl ?_
        refine Rg_op rfl (op_pick_t (v := (Value.bool true)) rfl rfl ?_)
        refine Rg_nil ?_
        exact hK112 _ _ ⟨true, _, rfl, ⟨(by repeat (first | with_reducible exact Out.refl _ _ | refine Out.upd ?_ rfl | refine Out.updL ?_ rfl | refine Out.mix' ?_ rfl | exact Out.refl _ _)), rfl, rfl, trivial⟩, ch203, hs100, hm⟩
       ·
        replace hm := bif_f hm hg206
        refine Rg_opg rfl rfl rfl (op_move (v := (Value.slice a_y106 worse_1.1.length c_y106)) rfl ?_)
        refine Rg_opg rfl rfl rfl (op_len Try.underlying22 rfl ?_)
        have rl207 := inK_len f_y106
        refine Rg_opg rfl rfl rfl (op_gtr rfl rfl ?_)
        refine Rg_op rfl (op_pick_f (v := (Value.bool (decide (0 < (worse_1.1.length : Int))))) rfl rfl ?_)
        refine Rg_nil ?_
        exact hK112 _ _ ⟨(decide (0 < (worse_1.1.length : Int))), _, rfl, ⟨(by repeat (first | with_reducible exact Out.refl _ _ | refine Out.upd ?_ rfl | refine Out.updL ?_ rfl | refine Out.mix' ?_ rfl | exact Out.refl _ _)), rfl, rfl, trivial⟩, ch203, hs100, hm⟩

end Go.Fx



/- What the models of functions compute: loops over lists, checks, meetings. No program in sight. -/
set_option linter.unusedSimpArgs false
set_option linter.unusedVariables false
namespace Go.Fx
open Go Go.RowKit

section
variable {R α σ : Type}
@[simp] theorem jn_eq {κ : Type _} (k : κ) (f : κ → Option R) : jn k f = f k := rfl
theorem ck_eq {c : Prop} [Decidable c] {m : Option R} (h : c) : ck c m = m := if_pos h
@[simp] theorem ck_True {m : Option R} : ck True m = m := if_pos trivial
theorem wrapN {i : Nat} (h : i < 9223372036854775808) : IntKind.i64.wrap (i : Int) = (i : Int) := wrap_i64 (by omega) (by omega)
theorem wrapS {i : Nat} (h : i + 1 < 9223372036854775808) : IntKind.i64.wrap ((i : Int) + 1) = (i : Int) + 1 := wrap_i64 (by omega) (by omega)
/-- a loop that goes up an index over a list: L fuel index state -/
theorem up_list {L : Nat → Int → σ → Option R} (I : Nat → σ → Prop) (F : Nat → List α → σ → Option R) (l : List α) (hl : l.length < 9223372036854775807)
    (hE : ∀ n s, I l.length s → L (n + 1) (l.length : Nat) s = F l.length [] s)
    (hS : ∀ n (i : Nat) s x t, i < l.length → l[i]? = some x → IntKind.i64.wrap ((i : Int) + 1) = (i : Int) + 1 → I i s →
      (∀ s, I (i + 1) s → L n ((i : Int) + 1) s = F (i + 1) t s) → L (n + 1) (i : Int) s = F i (x :: t) s) :
    ∀ (fuel : Nat) s, l.length < fuel → I 0 s → L fuel 0 s = F 0 l s := by
  have main : ∀ (t : List α) (i fuel : Nat) s, l.drop i = t → i ≤ l.length → l.length - i < fuel → I i s → L fuel (i : Int) s = F i t s := by
    intro t
    induction t with
    | nil =>
      intro i fuel s hd hi hf hI
      have : i = l.length := by have := congrArg List.length hd; simp at this; omega
      subst this
      obtain ⟨n, rfl⟩ : ∃ n, fuel = n + 1 := ⟨fuel - 1, by omega⟩
      exact hE n s hI
    | cons x t ih =>
      intro i fuel s hd hi hf hI
      have hlt : i < l.length := by have := congrArg List.length hd; simp at this; omega
      obtain ⟨n, rfl⟩ : ∃ n, fuel = n + 1 := ⟨fuel - 1, by omega⟩
      have hx : l[i]? = some x := by rw [← List.head?_drop, hd]; rfl
      refine hS n i s x t hlt hx (wrapS (by omega)) hI fun s' hI' => (ih (i + 1) n s' ?_ (by omega) (by omega) hI')
      rw [← List.drop_drop, hd]; rfl
  intro fuel s hf hI
  exact main l 0 fuel s rfl (by omega) (by omega) hI

theorem getD_of {l : List α} {i : Nat} {x d : α} (h : l[i]? = some x) : l.getD i d = x := by simp [List.getD, h]

/-- a loop that goes up an index over a list, no state -/
theorem up_list0 {B : (Int → Option R) → Int → Option R} (F : List α → Option R) (l : List α) (hl : l.length < 9223372036854775807)
    (hE : ∀ sf, B sf (l.length : Nat) = F [])
    (hS : ∀ sf (i : Nat) x t, i < l.length → l[i]? = some x → IntKind.i64.wrap ((i : Int) + 1) = (i : Int) + 1 →
      sf ((i : Int) + 1) = F t → B sf (i : Int) = F (x :: t))
    {fuel : Nat} (hf : l.length < fuel) : loop1 B fuel 0 = F l := by
  refine up_list (L := fun n i (_ : Unit) => loop1 B n i) (fun _ _ => True) (fun _ t _ => F t) l hl ?_ ?_ fuel () hf trivial
  · intro n _ _; show loop1 B (n + 1) _ = _; rw [loop1_succ]; exact hE _
  · intro n i _ x t h1 h2 h3 _ ih; show loop1 B (n + 1) _ = _; rw [loop1_succ]; exact hS _ i x t h1 h2 h3 (ih () trivial)
/-- index first, then a state -/
theorem up_listA {B : (Int → σ → Option R) → Int → σ → Option R} (I : Nat → σ → Prop) (F : Nat → List α → σ → Option R) (l : List α) (hl : l.length < 9223372036854775807)
    (hE : ∀ sf s, I l.length s → B sf (l.length : Nat) s = F l.length [] s)
    (hS : ∀ sf (i : Nat) s x t, i < l.length → l[i]? = some x → IntKind.i64.wrap ((i : Int) + 1) = (i : Int) + 1 → I i s →
      (∀ s, I (i + 1) s → sf ((i : Int) + 1) s = F (i + 1) t s) → B sf (i : Int) s = F i (x :: t) s)
    {fuel : Nat} {s : σ} (hf : l.length < fuel) (hI : I 0 s) : loop2 B fuel 0 s = F 0 l s := by
  refine up_list (L := fun n i s => loop2 B n i s) I F l hl ?_ ?_ fuel s hf hI
  · intro n s h; show loop2 B (n + 1) _ _ = _; rw [loop2_succ]; exact hE _ _ h
  · intro n i s x t h1 h2 h3 h4 ih; show loop2 B (n + 1) _ _ = _; rw [loop2_succ]; exact hS _ i s x t h1 h2 h3 h4 ih
/-- a state first, then the index -/
theorem up_listB {B : (σ → Int → Option R) → σ → Int → Option R} (I : Nat → σ → Prop) (F : Nat → List α → σ → Option R) (l : List α) (hl : l.length < 9223372036854775807)
    (hE : ∀ sf s, I l.length s → B sf s (l.length : Nat) = F l.length [] s)
    (hS : ∀ sf (i : Nat) s x t, i < l.length → l[i]? = some x → IntKind.i64.wrap ((i : Int) + 1) = (i : Int) + 1 → I i s →
      (∀ s, I (i + 1) s → sf s ((i : Int) + 1) = F (i + 1) t s) → B sf s (i : Int) = F i (x :: t) s)
    {fuel : Nat} {s : σ} (hf : l.length < fuel) (hI : I 0 s) : loop2 B fuel s 0 = F 0 l s := by
  refine up_list (L := fun n i s => loop2 B n s i) I F l hl ?_ ?_ fuel s hf hI
  · intro n s h; show loop2 B (n + 1) _ _ = _; rw [loop2_succ]; exact hE _ _ h
  · intro n i s x t h1 h2 h3 h4 ih; show loop2 B (n + 1) _ _ = _; rw [loop2_succ]; exact hS _ i s x t h1 h2 h3 h4 ih

/-- the same, where the answer needs the index -/
theorem up_listI {B : (Int → Option R) → Int → Option R} (F : Nat → List α → Option R) (l : List α) (hl : l.length < 9223372036854775807)
    (hE : ∀ sf, B sf (l.length : Nat) = F l.length [])
    (hS : ∀ sf (i : Nat) x t, i < l.length → l[i]? = some x → IntKind.i64.wrap ((i : Int) + 1) = (i : Int) + 1 →
      sf ((i : Int) + 1) = F (i + 1) t → B sf (i : Int) = F i (x :: t))
    {fuel : Nat} (hf : l.length < fuel) : loop1 B fuel 0 = F 0 l := by
  refine up_list (L := fun n i (_ : Unit) => loop1 B n i) (fun _ _ => True) (fun i t _ => F i t) l hl ?_ ?_ fuel () hf trivial
  · intro n _ _; show loop1 B (n + 1) _ = _; rw [loop1_succ]; exact hE _
  · intro n i _ x t h1 h2 h3 _ ih; show loop1 B (n + 1) _ = _; rw [loop1_succ]; exact hS _ i x t h1 h2 h3 (ih () trivial)
end
end Go.Fx



/- Chapter 37, no program in sight: all exchanges of some flights, in order. -/
set_option linter.unusedSimpArgs false
set_option linter.unusedVariables false
namespace Go.Fx
open Go Go.RowKit
/-- all ways to go on from b with k more, out of fl, all different, allowed at their place -/
def dv (fl : List Int) (ok : Nat → Int → Bool) : Nat → List Int → List (List Int)
  | 0, b => [b]
  | k + 1, b => fl.flatMap fun s => bif ok b.length s && !b.contains s then dv fl ok k (b ++ [s]) else []
/-- t may follow b -/
def gd (fl : List Int) (ok : Nat → Int → Bool) : List Int → List Int → Prop
  | _, [] => True
  | b, s :: t => s ∈ fl ∧ ok b.length s = true ∧ s ∉ b ∧ gd fl ok (b ++ [s]) t
theorem mem_dv {fl : List Int} {ok : Nat → Int → Bool} : ∀ {k : Nat} {b x : List Int}, x ∈ dv fl ok k b ↔ ∃ t, x = b ++ t ∧ t.length = k ∧ gd fl ok b t := by
  intro k
  induction k with
  | zero =>
    intro b x
    simp only [dv, List.mem_singleton]
    constructor
    · rintro rfl; exact ⟨[], by simp, rfl, trivial⟩
    · rintro ⟨t, rfl, ht, _⟩; rw [List.length_eq_zero_iff.1 ht]; simp
  | succ k ih =>
    intro b x
    simp only [dv, List.mem_flatMap]
    constructor
    · rintro ⟨s, hs, hx⟩
      cases hc : (ok b.length s && !b.contains s)
      · rw [hc] at hx; cases hx
      · rw [hc, cond_true, ih] at hx
        obtain ⟨t, rfl, ht, hg⟩ := hx
        simp only [Bool.and_eq_true, Bool.not_eq_true', List.contains_eq_mem, decide_eq_false_iff_not] at hc
        exact ⟨s :: t, by simp, by simp [ht], hs, hc.1, hc.2, hg⟩
    · rintro ⟨t, rfl, ht, hg⟩
      cases t with
      | nil => cases ht
      | cons s t =>
        obtain ⟨h1, h2, h3, h4⟩ := hg
        refine ⟨s, h1, ?_⟩
        have hc : (ok b.length s && !b.contains s) = true := by simp [h2, h3]
        rw [hc, cond_true, ih]
        exact ⟨t, by simp, by simpa using ht, h4⟩
/-- the sum of what belongs to o -/
def csum (own : Int → Int) (cost : Int → Int → Int) (o : Int) : List (Int × Int) → Int
  | [] => 0
  | (f, s) :: t => (if own f = o then cost f s else 0) + csum own cost o t
theorem csum_append (own : Int → Int) (cost : Int → Int → Int) (o : Int) (l m : List (Int × Int)) : csum own cost o (l ++ m) = csum own cost o l + csum own cost o m := by
  induction l with
  | nil => simp [csum]
  | cons p t ih => obtain ⟨f, s⟩ := p; simp only [List.cons_append, csum, ih]; omega
end Go.Fx



/- The plain laws of chapter 37: what the functions compute. -/
set_option linter.unusedSimpArgs false
set_option linter.unusedVariables false
namespace Go.Fx
open Go Go.RowKit
theorem all_range' {p : Nat → Bool} (i n : Nat) : (List.range' i (n + 1)).all p = (p i && (List.range' (i + 1) n).all p) := by rw [List.range'_succ]; rfl
theorem all_range {p : Nat → Bool} (n : Nat) : (List.range n).all p = (List.range' 0 n).all p := by rw [List.range_eq_range']
/-- the first index from i where g holds, or -1 -/
def fidx {α} (g : α → Bool) : Nat → List α → Int
  | _, [] => -1
  | i, x :: t => bif g x then (i : Int) else fidx g (i + 1) t
theorem fidx_any {α} (g : α → Bool) (l : List α) (i : Nat) : decide (0 ≤ fidx g i l) = l.any g := by
  induction l generalizing i with
  | nil => rfl
  | cons x t ih => cases h : g x <;> simp [fidx, h, ih]
theorem m51_eq (s : List Int) (f : Int → Option Bool) (g : Int → Bool) (hf : ∀ x ∈ s, f x = some (g x)) (hl : s.length < 9223372036854775807) : m51_slices_ContainsFuncint_int_ s f = some (s.any g) := by
  have : m70_slices_IndexFuncint_int_ s f = some (fidx g 0 s) := by
    unfold m70_slices_IndexFuncint_int_
    refine up_listI (fun i t => some (fidx g i t)) s hl ?_ ?_ (by omega)
    · intro sf; unfold m70_slices_IndexFuncint_int__B0; simp [fidx]
    · intro sf i x t h1 h2 h3 ih; unfold m70_slices_IndexFuncint_int__B0; obtain ⟨_, rfl⟩ := List.getElem?_eq_some_iff.1 h2
      have hfi := hf s[i] (List.getElem_mem _)
      cases h : g s[i] <;> simp [h1, h3, ih, hfi, h, fidx, ck_eq]
  unfold m51_slices_ContainsFuncint_int_; rw [this]; simp [fidx_any]
theorem m48_eq (s : List Int) (v : Int) (hl : s.length < 9223372036854775807) : m48_slices_Containsint_int_ s v = some (s.any fun x => decide (v = x)) := by
  have : m68_slices_Indexint_int_ s v = some (fidx (fun x => decide (v = x)) 0 s) := by
    unfold m68_slices_Indexint_int_
    refine up_listI (fun i t => some (fidx (fun x => decide (v = x)) i t)) s hl ?_ ?_ (by omega)
    · intro sf; unfold m68_slices_Indexint_int__B0; simp [fidx]
    · intro sf i x t h1 h2 h3 ih; unfold m68_slices_Indexint_int__B0; obtain ⟨_, rfl⟩ := List.getElem?_eq_some_iff.1 h2
      by_cases h : v = s[i]
      · have g1 : s.getD (i : Int).toNat default = s[i] := by simp [h1]
        simp only [show (i : Int) < (s.length : Int) by omega, decide_true, cond_true, g1]
        rw [ck_eq (by simp)]; simp [← h, fidx]
      · simp [h1, h3, ih, h, fidx, ck_eq]
  unfold m48_slices_Containsint_int_; rw [this]; simp [fidx_any]
def badC (c : Int) : Bool := decide (c < -1) || decide (1048576 < c)
theorem m52_eq (c : Int) (hc : InK .i64 c) : m52_coalition_Check_2 c (fun x24 x25 => m50_coalition_Check_1 x24 x25) = some (badC c) := by
  have h1 := hc.1; have h2 := hc.2
  simp [IntKind.min, IntKind.max, IntKind.signed, IntKind.bits] at h1 h2
  unfold m52_coalition_Check_2 m50_coalition_Check_1 badC
  by_cases hm : c = 9223372036854775807
  · subst hm; rfl
  · have w : IntKind.i64.wrap (c + 1) = c + 1 := wrap_i64 (by omega) (by omega)
    rw [w]
    by_cases k1 : c < -1
    · have : c + 1 < 0 := by omega
      simp [k1, this]
    · have : ¬ c + 1 < 0 := by omega
      have e : (1048577 < c + 1) = (1048576 < c) := by apply propext; omega
      simp only [k1, this, e, decide_false, cond_false, Bool.false_or, Option.bind_some]
/-- flight i of a round is not as it should be -/
def rowBad (r : XRound) (i : Nat) : Bool :=
  (decide (r.owners.getD i default < 0) || decide (7 < r.owners.getD i default)) || (!decide (((r.costs.getD i default).length : Int) = r.slots) || (decide ((r.costs.getD i default).getD i default < 0) || (r.costs.getD i default).any badC))
def shapeB (r : XRound) : Bool := !(decide (r.slots < 1) || (decide (8 < r.slots) || (decide (r.slots < (r.owners.length : Int)) || decide ((r.costs.length : Int) ≠ (r.owners.length : Int)))))
/-- what Check answers -/
def valB (r : XRound) : Bool := shapeB r && (List.range r.owners.length).all fun i => !rowBad r i
theorem shape_props {r : XRound} (h : shapeB r = true) : 1 ≤ r.slots ∧ r.slots ≤ 8 ∧ (r.owners.length : Int) ≤ r.slots ∧ r.costs.length = r.owners.length := by
  unfold shapeB at h; simp at h; omega
theorem m25_eq (r : XRound) (hs : smXRound r) : m25_coalition_Check r = some (bif valB r then 0 else 370) := by
  have hcl : r.costs.length < 9223372036854775807 := by have := hs.2.2.1; omega
  unfold m25_coalition_Check
  have main : shapeB r = true → loop1 (m25_coalition_Check_B0 r) (((r.costs.length : Int) - 0).toNat + 1) 0 = some (bif (List.range r.owners.length).all (fun i => !rowBad r i) then 0 else 370) := by
    intro hsh
    obtain ⟨s1, s2, s3, s4⟩ := shape_props hsh
    rw [all_range, ← s4]
    refine up_listI (fun i t => some (bif (List.range' i t.length).all (fun i => !rowBad r i) then 0 else 370)) r.costs hcl ?_ ?_ (show r.costs.length < ((r.costs.length : Int) - 0).toNat + 1 by omega)
    · intro sf; unfold m25_coalition_Check_B0; simp
    · intro sf i x t h1 h2 h3 ih
      have g0 : r.costs.getD (i : Int).toNat default = r.costs.getD i default := rfl
      have g1 : r.owners.getD (i : Int).toNat default = r.owners.getD i default := rfl
      have g2 : (r.costs.getD i default).getD (i : Int).toNat default = (r.costs.getD i default).getD i default := rfl
      have hrow : r.costs.getD i default ∈ r.costs := by rw [show r.costs.getD i default = r.costs[i] from by simp [h1]]; exact List.getElem_mem _
      have hrl := (hs.2.2.2 _ hrow)
      rw [List.length_cons, all_range']
      unfold m25_coalition_Check_B0
      have c1 : (i : Int) < (r.costs.length : Int) := by omega
      simp only [c1, decide_true, cond_true, jn_eq, g0, g1, g2, h3, ih]
      rw [ck_eq (by simp), ck_eq (by omega)]
      have m45 := m51_eq (r.costs.getD i default) (fun x286 => m52_coalition_Check_2 x286 (fun x24 x25 => m50_coalition_Check_1 x24 x25)) badC (fun x hx => m52_eq x (hrl.2 x hx)) (by have := hrl.1; omega)
      rw [m45]
      have hb : rowBad r i = ((decide (r.owners.getD i default < 0) || decide (7 < r.owners.getD i default)) || (!decide (((r.costs.getD i default).length : Int) = r.slots) || (decide ((r.costs.getD i default).getD i default < 0) || (r.costs.getD i default).any badC))) := rfl
      rw [hb]
      generalize (List.range' (i + 1) t.length).all (fun i => !rowBad r i) = rest
      clear hb ih hrl hrow m45 g0 g1 g2 hs
      generalize r.costs.getD i default = row
      generalize r.owners.getD i default = o
      generalize row.getD i default = dg
      generalize row.any badC = bb
      unfold m50_coalition_Check_1
      by_cases k1 : o < 0
      · simp [k1]
      by_cases k2 : 7 < o
      · simp [k1, k2]
      by_cases k3 : (row.length : Int) = r.slots
      · rw [ck_eq (by omega)]
        by_cases k4 : dg < 0
        · simp [k1, k2, k3, k4]
        · cases bb <;> simp [k1, k2, k3, k4]
      · simp [k1, k2, k3]
  simp only [jn_eq]
  unfold valB
  cases hsh : shapeB r
  · unfold shapeB at hsh
    by_cases k1 : r.slots < 1
    · simp [k1]
    by_cases k2 : 8 < r.slots
    · simp [k1, k2]
    by_cases k3 : r.slots < (r.owners.length : Int)
    · simp [k1, k2, k3]
    by_cases k4 : (r.costs.length : Int) = (r.owners.length : Int)
    · simp [k1, k2, k3, k4] at hsh
    · simp [k1, k2, k3, k4]
  · have hm := main hsh
    obtain ⟨s1, s2, s3, s4⟩ := shape_props hsh
    have k1 : ¬ r.slots < 1 := by omega
    have k2 : ¬ 8 < r.slots := by omega
    have k3 : ¬ r.slots < (r.owners.length : Int) := by omega
    have k4 : (r.costs.length : Int) = (r.owners.length : Int) := by omega
    simp only [k1, k2, k3, k4, decide_false, cond_false, ne_eq, not_true_eq_false, Bool.true_and]
    rw [k4] at hm; exact hm
structure Val (r : XRound) : Prop where
  s1 : 1 ≤ r.slots
  s2 : r.slots ≤ 8
  s3 : (r.owners.length : Int) ≤ r.slots
  s4 : r.costs.length = r.owners.length
  own : ∀ i < r.owners.length, 0 ≤ r.owners.getD i default ∧ r.owners.getD i default < 8
  row : ∀ i < r.owners.length, ((r.costs.getD i default).length : Int) = r.slots
  diag : ∀ i < r.owners.length, 0 ≤ (r.costs.getD i default).getD i default
  cost : ∀ i < r.owners.length, ∀ c ∈ r.costs.getD i default, -1 ≤ c ∧ c ≤ 1048576
theorem Val.of {r : XRound} (h : valB r = true) : Val r := by
  unfold valB at h
  simp only [Bool.and_eq_true, List.all_eq_true, List.mem_range] at h
  obtain ⟨s1, s2, s3, s4⟩ := shape_props h.1
  have hb : ∀ i < r.owners.length, _ := fun i hi => h.2 i hi
  refine ⟨s1, s2, s3, s4, fun i hi => ?_, fun i hi => ?_, fun i hi => ?_, fun i hi c hc => ?_⟩ <;> (have := hb i hi; unfold rowBad at this; simp only [Bool.not_eq_true', Bool.or_eq_false_iff, Bool.not_eq_false', decide_eq_false_iff_not, decide_eq_true_eq, List.any_eq_false] at this; obtain ⟨⟨p1, p2⟩, p3, p4, p5⟩ := this)
  · omega
  · exact p3
  · omega
  · have := p5 c hc; simp [badC] at this; omega
end Go.Fx



/- Chapter 37: validity, few, assignments, costs. -/
set_option linter.unusedSimpArgs false
set_option linter.unusedVariables false
namespace Go.Fx
open Go Go.RowKit
theorem any_range' {p : Nat → Bool} (i n : Nat) : (List.range' i (n + 1)).any p = (p i || (List.range' (i + 1) n).any p) := by rw [List.range'_succ]; rfl
theorem getD_getElem {α} [Inhabited α] {l : List α} {i : Nat} (h : i < l.length) : l.getD i default = l[i] := by simp [h]
theorem getD_mem {α} [Inhabited α] {l : List α} {i : Nat} (h : i < l.length) : l.getD i default ∈ l := by rw [getD_getElem h]; exact List.getElem_mem _
def badK (row : List Int) (i k : Nat) : Bool := decide (row.getD k default < -1) || (decide (1048576 < row.getD k default) || (decide (k = i) && decide (row.getD k default < 0)))
theorem badK_any {row : List Int} {i : Nat} (h : i < row.length) : (List.range' 0 row.length).any (badK row i) = (decide (row.getD i default < 0) || row.any badC) := by
  rw [Bool.eq_iff_iff]
  simp only [List.any_eq_true, Bool.or_eq_true, decide_eq_true_eq, List.mem_range'_1, Nat.zero_le, true_and, Nat.zero_add]
  constructor
  · rintro ⟨k, hk, hb⟩
    unfold badK at hb
    simp only [Bool.or_eq_true, Bool.and_eq_true, decide_eq_true_eq] at hb
    rcases hb with hb | hb | ⟨rfl, hb⟩
    · exact .inr ⟨_, getD_mem hk, by unfold badC; simp only [← getD_getElem hk, hb, decide_true, Bool.true_or, Bool.or_true]⟩
    · exact .inr ⟨_, getD_mem hk, by unfold badC; simp only [← getD_getElem hk, hb, decide_true, Bool.true_or, Bool.or_true]⟩
    · exact .inl hb
  · rintro (hb | ⟨c, hc, hb⟩)
    · exact ⟨i, h, by simp only [badK, hb, decide_true, Bool.and_true, Bool.or_true]⟩
    · obtain ⟨k, hk, rfl⟩ := List.getElem_of_mem hc
      refine ⟨k, hk, ?_⟩
      unfold badC at hb; simp only [Bool.or_eq_true, decide_eq_true_eq] at hb
      unfold badK; rw [getD_getElem hk]
      rcases hb with hb | hb <;> simp [hb]
theorem m54_eq (r : XRound) (hs : smXRound r) : m54_overflightref37_Valid r = some (valB r) := by
  have hcl : r.owners.length < 9223372036854775807 := by have := hs.2.1.1; omega
  unfold m54_overflightref37_Valid
  have main : shapeB r = true → loop1 (m54_overflightref37_Valid_B0 r) (((r.owners.length : Int) - 0).toNat + 1) 0 = some ((List.range r.owners.length).all (fun i => !rowBad r i)) := by
    intro hsh
    obtain ⟨s1, s2, s3, s4⟩ := shape_props hsh
    rw [all_range]
    refine up_listI (fun i t => some ((List.range' i t.length).all (fun i => !rowBad r i))) r.owners hcl ?_ ?_ (show r.owners.length < ((r.owners.length : Int) - 0).toNat + 1 by omega)
    · intro sf; unfold m54_overflightref37_Valid_B0; simp
    · intro sf i x t h1 h2 h3 ih
      have hrow : r.costs.getD i default ∈ r.costs := getD_mem (by omega)
      have hrl := (hs.2.2.2 _ hrow)
      rw [List.length_cons, all_range']
      unfold m54_overflightref37_Valid_B0
      have c1 : (i : Int) < (r.owners.length : Int) := by omega
      have g0 : r.costs.getD (i : Int).toNat default = r.costs.getD i default := rfl
      have g1 : r.owners.getD (i : Int).toNat default = r.owners.getD i default := rfl
      simp only [decide_eq_true c1, cond_true, jn_eq, g0, g1]
      have inner : ∀ row : List Int, row = r.costs.getD i default → (row.length : Int) = r.slots → loop1 (m54_overflightref37_Valid_B1 r (i : Int) sf) ((r.slots - 0).toNat + 1) 0 = bif (decide (row.getD i default < 0) || row.any badC) then some false else sf (IntKind.wrap .i64 ((i : Int) + 1)) := by
        intro row hr hl
        rw [← badK_any (row := row) (i := i) (by omega)]
        refine up_listI (fun k t => bif (List.range' k t.length).any (badK row i) then some false else sf (IntKind.wrap .i64 ((i : Int) + 1))) row (by omega) ?_ ?_ (by omega)
        · intro sg; unfold m54_overflightref37_Valid_B1; simp [hl]
        · intro sg k y u h1 h2 h3 ih
          have g0 : r.costs.getD (i : Int).toNat default = row := by rw [hr]; rfl
          have g2 : row.getD (k : Int).toNat default = row.getD k default := rfl
          have c1 : (k : Int) < r.slots := by omega
          have e1 : ((k : Int) = (i : Int)) = (k = i) := by apply propext; omega
          rw [List.length_cons, any_range']
          unfold m54_overflightref37_Valid_B1
          simp only [c1, decide_true, cond_true, jn_eq, g0, g2, h3, ih, e1]
          rw [ck_eq (by omega), ck_eq (by omega)]
          have hb : badK row i k = (decide (row.getD k default < -1) || (decide (1048576 < row.getD k default) || (decide (k = i) && decide (row.getD k default < 0)))) := rfl
          rw [hb]
          have a1 : (0 : Int) ≤ i ∧ (i : Int) < r.costs.length := by omega
          have a2 : (0 : Int) ≤ k ∧ (k : Int) < row.length := by omega
          generalize (List.range' (k + 1) u.length).any (badK row i) = rest
          generalize row.getD k default = c
          simp only [ck_eq a1, ck_eq a2]
          by_cases q1 : c < -1
          · simp [q1]
          by_cases q2 : 1048576 < c
          · simp [q1, q2]
          by_cases q3 : k = i
          · by_cases q4 : c < 0
            · simp only [q1, q2, q3, q4]; rfl
            · simp only [q1, q2, q3, q4]; rfl
          · simp [q1, q2, q3]
      have hb : rowBad r i = ((decide (r.owners.getD i default < 0) || decide (7 < r.owners.getD i default)) || (!decide (((r.costs.getD i default).length : Int) = r.slots) || (decide ((r.costs.getD i default).getD i default < 0) || (r.costs.getD i default).any badC))) := rfl
      rw [hb]
      replace inner := inner _ rfl
      rw [h3] at inner
      generalize (List.range' (i + 1) t.length).all (fun i => !rowBad r i) = rest at *
      clear hb hrl hrow g0 g1 hs
      generalize r.costs.getD i default = row at *
      generalize r.owners.getD i default = o at *
      generalize row.getD i default = dg at *
      generalize row.any badC = bb at *
      have a1 : (0 : Int) ≤ i ∧ (i : Int) < r.owners.length := by omega
      have a2 : (0 : Int) ≤ i ∧ (i : Int) < r.costs.length := by omega
      simp only [ck_eq a1, ck_eq a2]
      by_cases k1 : o < 0
      · simp [k1]
      by_cases k2 : 7 < o
      · have : 8 ≤ o := by omega
        simp [k1, k2, this, ck_eq a1]
      have k2' : ¬ 8 ≤ o := by omega
      by_cases k3 : (row.length : Int) = r.slots
      · simp only [k1, k2, k2', k3, ck_eq a1, ck_eq a2, inner k3, ih, ne_eq, not_true_eq_false, decide_false, cond_false]
        generalize decide (dg < 0) = d1
        cases d1 <;> cases bb <;> rfl
      · simp [k1, k2, k2', k3, ck_eq a1, ck_eq a2]
  simp only [jn_eq]
  unfold valB
  cases hsh : shapeB r
  · unfold shapeB at hsh
    by_cases k1 : r.slots < 1
    · simp [k1]
    by_cases k2 : 8 < r.slots
    · simp [k1, k2]
    by_cases k3 : r.slots < (r.owners.length : Int)
    · simp [k1, k2, k3]
    by_cases k4 : (r.costs.length : Int) = (r.owners.length : Int)
    · simp [k1, k2, k3, k4] at hsh
    · simp [k1, k2, k3, k4]
  · have hm := main hsh
    obtain ⟨s1, s2, s3, s4⟩ := shape_props hsh
    have k1 : ¬ r.slots < 1 := by omega
    have k2 : ¬ 8 < r.slots := by omega
    have k3 : ¬ r.slots < (r.owners.length : Int) := by omega
    have k4 : (r.costs.length : Int) = (r.owners.length : Int) := by omega
    simp only [k1, k2, k3, k4, decide_false, cond_false, ne_eq, not_true_eq_false, Bool.true_and]
    exact hm
def fewB (r : XRound) : Bool := !(decide (12 < (r.owners.length : Int)) || decide (12 < (r.costs.length : Int))) && (r.costs.all (fun c => !decide (20 < (c.length : Int))) && (!valB r || decide ((r.owners.length : Int) ≤ 5)))
theorem m29_eq (r : XRound) (hs : smXRound r) : m29_overflightref37_Few r = some (fewB r) := by
  have hcl : r.costs.length < 9223372036854775807 := by have := hs.2.2.1; omega
  unfold m29_overflightref37_Few
  have main : loop1 (m29_overflightref37_Few_B0 r) (((r.costs.length : Int) - 0).toNat + 1) 0 = some (r.costs.all (fun c => !decide (20 < (c.length : Int))) && (!valB r || decide ((r.owners.length : Int) ≤ 5))) := by
    refine up_list0 (fun t => some (t.all (fun c => !decide (20 < (c.length : Int))) && (!valB r || decide ((r.owners.length : Int) ≤ 5)))) r.costs hcl ?_ ?_ (show r.costs.length < ((r.costs.length : Int) - 0).toNat + 1 by omega)
    · intro sf; unfold m29_overflightref37_Few_B0; simp only [m54_eq r hs]; cases valB r <;> simp
    · intro sf i x t h1 h2 h3 ih
      unfold m29_overflightref37_Few_B0
      have g0 : r.costs.getD (i : Int).toNat default = x := getD_of h2
      have c1 : (i : Int) < (r.costs.length : Int) := by omega
      simp only [c1, decide_true, cond_true, g0, h3, ih, List.all_cons]
      rw [ck_eq (by simp)]
      cases decide (20 < (x.length : Int)) <;> simp
  simp only [jn_eq, main]
  unfold fewB
  cases decide (12 < (r.owners.length : Int)) <;> cases decide (12 < (r.costs.length : Int)) <;> simp
/-- what flight f costs at slot s -/
def cst (r : XRound) (f s : Int) : Int := (r.costs.getD f.toNat default).getD s.toNat default
def ownr (r : XRound) (f : Int) : Int := r.owners.getD f.toNat default
/-- slot i of s is as it should be -/
def okS (r : XRound) (s : List Int) (i : Nat) : Bool := !(decide (s.getD i default < 0) || (decide (r.slots ≤ s.getD i default) || (decide (cst r i (s.getD i default) < 0) || (s.take i).any (fun x => decide (s.getD i default = x)))))
def asgB (r : XRound) (s : List Int) : Bool := decide (s.length = r.owners.length) && (List.range s.length).all (okS r s)
theorem m53_eq (r : XRound) (s : List Int) (hv : Val r) (hl : s.length < 9223372036854775807) : m53_coalition_allowed r s = some (asgB r s) := by
  unfold m53_coalition_allowed asgB
  by_cases hc : s.length = r.owners.length
  · have : ¬ (s.length : Int) ≠ r.owners.length := by omega
    simp only [this, decide_eq_true hc, decide_false, cond_false, Bool.true_and]
    rw [all_range]
    refine up_listI (fun i t => some ((List.range' i t.length).all (okS r s))) s hl ?_ ?_ (show s.length < ((s.length : Int) - 0).toNat + 1 by omega)
    · intro sf; unfold m53_coalition_allowed_B0; simp
    · intro sf i x t h1 h2 h3 ih
      rw [List.length_cons, all_range']
      unfold m53_coalition_allowed_B0
      have g0 : s.getD (i : Int).toNat default = s.getD i default := rfl
      have c1 : (i : Int) < (s.length : Int) := by omega
      have c2 : (0 : Int) ≤ i ∧ (i : Int) < s.length := by omega
      have c3 : (0 : Int) ≤ i ∧ (i : Int) ≤ s.length := by omega
      have c4 : (0 : Int) ≤ i ∧ (i : Int) < r.costs.length := by have := hv.s4; omega
      have e1 : (s.drop 0).take ((i : Int).toNat - 0) = s.take i := by simp
      have hm := m48_eq (s.take i) (s.getD i default) (by rw [List.length_take]; omega)
      have e2 : (r.costs.getD (i : Int).toNat default).getD (s.getD i default).toNat default = cst r i (s.getD i default) := rfl
      have hr := hv.row i (by omega)
      have hr' : ((r.costs.getD (i : Int).toNat default).length : Int) = r.slots := hr
      have hb : okS r s i = !(decide (s.getD i default < 0) || (decide (r.slots ≤ s.getD i default) || (decide (cst r i (s.getD i default) < 0) || (s.take i).any (fun x => decide (s.getD i default = x))))) := rfl
      simp only [c1, decide_true, cond_true, jn_eq, ck_eq c2, g0, h3, ih, e1, hm, ck_eq c3, ck_eq c4, e2, hr', hb, Option.bind_some]
      generalize cst r i (s.getD i default) = c
      generalize (s.take i).any (fun x => decide (s.getD i default = x)) = b
      generalize s.getD i default = v
      by_cases k1 : v < 0
      · simp [k1]
      by_cases k2 : r.slots ≤ v
      · simp [k1, k2]
      have c5 : (0 : Int) ≤ v ∧ v < r.slots := by omega
      simp only [ck_eq c5]
      by_cases k3 : c < 0
      · simp [k1, k2, k3]
      · cases b <;> simp [k1, k2, k3]
  · have : (s.length : Int) ≠ r.owners.length := by omega
    simp [this, hc]
theorem m26_eq (r : XRound) (s : List Int) (hs : smXRound r) (hl : s.length < 9223372036854775807) : m26_coalition_Allowed r s = some (bif valB r then (asgB r s, 0) else (false, 370)) := by
  unfold m26_coalition_Allowed
  rw [m25_eq r hs]
  cases hv : valB r
  · rfl
  · simp [m53_eq r s (Val.of hv) hl]
def goodB (r : XRound) (s : List Int) : Bool := valB r && asgB r s
theorem m45_eq (r : XRound) (s : List Int) (hs : smXRound r) (hl : s.length < 9223372036854775807) : m45_coalition_check r s = some (bif goodB r s then 0 else 370) := by
  unfold m45_coalition_check
  rw [m26_eq r s hs hl]
  unfold goodB
  cases hv : valB r
  · rfl
  · cases ha : asgB r s <;> rfl
def ownL (r : XRound) : List Int := (List.range r.owners.length).map fun i : Nat => (i : Int)
theorem m47_eq (r : XRound) (hv : Val r) : m47_coalition_own r = some (ownL r) := by
  unfold m47_coalition_own ownL
  have hn : r.owners.length ≤ 8 := by have := hv.s3; have := hv.s2; omega
  rw [List.range_eq_range']
  refine up_listB (fun i s => s.length = i) (fun i t s => some (s ++ (List.range' i t.length).map fun i : Nat => (i : Int))) r.owners (by omega) ?_ ?_ (by omega) (by rfl)
  · intro sf s hI; unfold m47_coalition_own_B0; simp
  · intro sf i s x t h1 h2 h3 hI ih
    unfold m47_coalition_own_B0
    have c1 : (i : Int) < (r.owners.length : Int) := by omega
    simp only [c1, decide_true, cond_true, h3]
    rw [ck_eq (by simp [hI]; omega), ih _ (by simp [hI])]
    simp [List.range'_succ]
end Go.Fx


