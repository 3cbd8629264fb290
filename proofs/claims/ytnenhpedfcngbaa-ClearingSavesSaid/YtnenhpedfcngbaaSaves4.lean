/- Part 4 of the proof: the best round costs no more than no round at all, and where it costs the same nobody moves. -/
import Derived.Test.YtnenhpedfcngbaaSaves3
set_option linter.unusedVariables false
set_option linter.unusedSimpArgs false
set_option maxRecDepth 100000
set_option maxHeartbeats 0
namespace Go.Fx
open Go Go.RowKit Go.Proofs
def m10_overflightlaw38_sane : Option Bool :=
 (m18_clearing_Best (⟨3, [0, 1], [[9, 2, (-1)], [4, 8, 30]]⟩ : XRound)).bind fun best_1 =>
 (m12_clearing_Value (⟨3, [0, 1], [[9, 2, (-1)], [4, 8, 30]]⟩ : XRound) best_1.1).bind fun value_1 =>
 (m14_clearing_Cycles (⟨3, [0, 1], [[9, 2, (-1)], [4, 8, 30]]⟩ : XRound) best_1.1).bind fun cycles_1 =>
 (m14_clearing_Cycles (⟨3, [0, 1], [[9, 2, (-1)], [4, 8, 30]]⟩ : XRound) [1, 2]).bind fun cycles_2 =>
 (m14_clearing_Cycles (⟨3, [0, 1], [[9, 2, (-1)], [4, 8, 30]]⟩ : XRound) [0, 1]).bind fun cycles_3 =>
 (m18_clearing_Best (⟨1, ([] : List Int), ([] : List (List Int))⟩ : XRound)).bind fun best_2 =>
 (m18_clearing_Best (⟨0, ([] : List Int), ([] : List (List Int))⟩ : XRound)).bind fun best_3 =>
 (m18_clearing_Best (⟨2, [0, 1], [[1, 2], [2, 1]]⟩ : XRound)).bind fun best_4 =>
 jn (fun (v_1 : Bool) =>
  some v_1)
 (fun k219 =>
  bif (decide (best_1.2 = 0)) then
   (m16_overflightref37_SameInts best_1.1 [1, 0]).bind fun sameints_1 =>
   bif sameints_1 then
    bif (decide (value_1.2 = 0)) then
     (m16_overflightref37_SameInts value_1.1 [6, 2]).bind fun sameints_2 =>
     bif sameints_2 then
      bif (decide (cycles_1.2 = 0)) then
       (m17_overflightref38_SameLists cycles_1.1 [[0, 1]]).bind fun samelists_1 =>
       bif samelists_1 then
        bif (decide (cycles_2.2 = 0)) then
         (m17_overflightref38_SameLists cycles_2.1 [[1, 0]]).bind fun samelists_2 =>
         bif samelists_2 then
          bif (decide (cycles_3.2 = 0)) then
           bif (decide ((cycles_3.1.length : Int) = 0)) then
            bif (decide (best_2.2 = 0)) then
             bif (decide ((best_2.1.length : Int) = 0)) then
              bif (decide (best_3.2 = 370)) then
               bif (decide (best_4.2 = 0)) then
                (m16_overflightref37_SameInts best_4.1 [0, 1]).bind fun sameints_3 =>
                bif sameints_3 then
                 (m20_clearing_Verify (⟨3, [0, 1], [[9, 2, (-1)], [4, 8, 30]]⟩ : XRound) best_1.1).bind fun verify_1 =>
                 bif (decide (verify_1 = 0)) then
                  (m20_clearing_Verify (⟨3, [0, 1], [[9, 2, (-1)], [4, 8, 30]]⟩ : XRound) [0, 1]).bind fun verify_2 =>
                  bif (decide (verify_2 = 380)) then
                   (m20_clearing_Verify (⟨3, [0, 1], [[9, 2, (-1)], [4, 8, 30]]⟩ : XRound) [1, 2]).bind fun verify_3 =>
                   k219 (decide (verify_3 = 380))
                  else
                   k219 false
                 else
                  k219 false
                else
                 k219 false
               else
                k219 false
              else
               k219 false
             else
              k219 false
            else
             k219 false
           else
            k219 false
          else
           k219 false
         else
          k219 false
        else
         k219 false
       else
        k219 false
      else
       k219 false
     else
      k219 false
    else
     k219 false
   else
    k219 false
  else
   k219 false)

theorem c10_overflightlaw38_sane {w : World} {O : List Nat} (hO : ∀ k ∈ O, k < w.heap.size) {x : Bool} (hm : m10_overflightlaw38_sane = some x) :
  Ok Try.prog 10 [] w O vB x := by
 unfold m10_overflightlaw38_sane at hm
 refine Fn_of_Wp (n := 158) (xs := [.tmp 0]) Try.func10 rfl Try.ntmps10 Try.results10 rfl ?_
 have hs := St.start hO
 refine Wp_seq ?_
 refine Wp_region ?_
 refine Rg_op rfl (op_assign (v := (Value.bool false)) rfl ?_)
 refine Rg_nil ?_
 refine Wp_seq ?_
 refine Wp_region ?_
 refine Rg_op rfl (op_buildSlice (cs := [(Value.int .i64 0), (Value.int .i64 1)]) (parts := [(0, .const (.int .i64 0)), (1, .const (.int .i64 1))]) ty22 ty3 hs (by decide) rfl ?_)
 intro b1 w2 hx5 p3 hs4
 clear p3
 refine Rg_op rfl (op_buildSlice (cs := [(Value.int .i64 9), (Value.int .i64 2), (Value.int .i64 (-1))]) (parts := [(0, .const (.int .i64 9)), (1, .const (.int .i64 2)), (2, .const (.int .i64 (-1)))]) ty22 ty3 hs4 (by decide) rfl ?_)
 intro b7 w8 hx11 p9 hs10
 clear p9 hs4
 refine Rg_op rfl (op_buildSlice (cs := [(Value.int .i64 4), (Value.int .i64 8), (Value.int .i64 30)]) (parts := [(0, .const (.int .i64 4)), (1, .const (.int .i64 8)), (2, .const (.int .i64 30))]) ty22 ty3 hs10 (by decide) rfl ?_)
 intro b13 w14 hx17 p15 hs16
 clear p15 hs10
 obtain ⟨hs20, p21, f19⟩ := St.publish (i := 1) (o := 0) (c := 3) (xs := [9, 2, (-1)]) hs16 rfl (show Els (rInt .i64) _ _ [(Value.int .i64 9), (Value.int .i64 2), (Value.int .i64 (-1))] [9, 2, (-1)] from ⟨_, _, rfl, (mk_int (show InK .i64 9 from by decide)), ⟨_, _, rfl, (mk_int (show InK .i64 2 from by decide)), ⟨_, _, rfl, (mk_int (show InK .i64 (-1) from by decide)), Els.nil⟩⟩⟩) (le_lit rfl) (le_lit rfl) (le_lit rfl)
 clear p21 hs16
 obtain ⟨hs23, p24, f22⟩ := St.publish (i := 0) (o := 0) (c := 3) (xs := [4, 8, 30]) hs20 rfl (show Els (rInt .i64) _ _ [(Value.int .i64 4), (Value.int .i64 8), (Value.int .i64 30)] [4, 8, 30] from ⟨_, _, rfl, (mk_int (show InK .i64 4 from by decide)), ⟨_, _, rfl, (mk_int (show InK .i64 8 from by decide)), ⟨_, _, rfl, (mk_int (show InK .i64 30 from by decide)), Els.nil⟩⟩⟩) (le_lit rfl) (le_lit rfl) (le_lit rfl)
 replace f19 := f19.step p24; clear p24 hs20
 refine Rg_op rfl (op_buildSlice (cs := [(Value.slice (some ⟨b7, 0, none⟩) [9, 2, (-1)].length 3), (Value.slice (some ⟨b13, 0, none⟩) [4, 8, 30].length 3)]) (parts := [(0, .tmp 20), (1, .tmp 21)]) ty23 ty22 hs23 (by decide) rfl ?_)
 intro b25 w26 hx29 p27 hs28
 replace f19 := f19.step p27; replace f22 := f22.step p27; clear p27 hs23
 have f31 := Gs.of_cells (p := (rInt .i64)) (e := 3) (bl := b1) (c := 2) (w := w26) (O := ks [(some b25, Obj.cells [(Value.slice (some ⟨b7, 0, none⟩) [9, 2, (-1)].length 3), (Value.slice (some ⟨b13, 0, none⟩) [4, 8, 30].length 3)].toArray 22), (some b1, Obj.cells [(Value.int .i64 0), (Value.int .i64 1)].toArray 3)] O) (show Els (rInt .i64) _ _ [(Value.int .i64 0), (Value.int .i64 1)] [0, 1] from ⟨_, _, rfl, (mk_int (show InK .i64 0 from by decide)), ⟨_, _, rfl, (mk_int (show InK .i64 1 from by decide)), Els.nil⟩⟩) rfl (le_lit rfl)
 have f32 := Gs.of_cells (p := (rSl (rInt .i64))) (e := 22) (bl := b25) (c := 2) (w := w26) (O := ks [(some b25, Obj.cells [(Value.slice (some ⟨b7, 0, none⟩) [9, 2, (-1)].length 3), (Value.slice (some ⟨b13, 0, none⟩) [4, 8, 30].length 3)].toArray 22), (some b1, (Obj.cells [(Value.int .i64 0), (Value.int .i64 1)].toArray 3))] O) (show Els (rSl (rInt .i64)) _ _ [(Value.slice (some ⟨b7, 0, none⟩) [9, 2, (-1)].length 3), (Value.slice (some ⟨b13, 0, none⟩) [4, 8, 30].length 3)] [[9, 2, (-1)], [4, 8, 30]] from ⟨_, _, rfl, (mk_sl f19), ⟨_, _, rfl, (mk_sl f22), Els.nil⟩⟩) rfl (le_lit rfl)
 refine Rg_op rfl (op_build (vs := [(Value.int .i64 3), (Value.slice (some ⟨b1, 0, none⟩) [0, 1].length 2), (Value.slice (some ⟨b25, 0, none⟩) [[9, 2, (-1)], [4, 8, 30]].length 2)]) (parts := [(0, .const (.int .i64 3)), (1, .tmp 19), (2, .tmp 22)]) ty25 pl25 rfl ?_)
 refine Rg_op rfl (op_alloc ty25 hs28 ?_)
 intro b33 w34 _ p35 hs36
 replace f19 := f19.step p35; replace f22 := f22.step p35; replace f31 := f31.step p35; replace f32 := f32.step p35; clear p35 hs28
 refine Rg_op_ (op_store (cs := [(Value.int .i64 0), (Value.slice none 0 0), (Value.slice none 0 0)]) (vs := [(Value.int .i64 3), (Value.slice (some ⟨b1, 0, none⟩) [0, 1].length 2), (Value.slice (some ⟨b25, 0, none⟩) [[9, 2, (-1)], [4, 8, 30]].length 2)]) (cs' := [(Value.int .i64 3), (Value.slice (some ⟨b1, 0, none⟩) [0, 1].length 2), (Value.slice (some ⟨b25, 0, none⟩) [[9, 2, (-1)], [4, 8, 30]].length 2)]) (bs' := [(some b33, Obj.cells [(Value.int .i64 3), (Value.slice (some ⟨b1, 0, none⟩) [0, 1].length 2), (Value.slice (some ⟨b25, 0, none⟩) [[9, 2, (-1)], [4, 8, 30]].length 2)].toArray 25), (some b25, (Obj.cells [(Value.slice (some ⟨b7, 0, none⟩) [9, 2, (-1)].length 3), (Value.slice (some ⟨b13, 0, none⟩) [4, 8, 30].length 3)].toArray 22)), (some b1, (Obj.cells [(Value.int .i64 0), (Value.int .i64 1)].toArray 3))]) (i := 0) ty25 hs36 rfl rfl rfl rfl rfl (le_lit rfl) rfl rfl rfl ?_)
 intro w38 p39 hs40
 replace f19 := f19.step p39; replace f22 := f22.step p39; replace f31 := f31.step p39; replace f32 := f32.step p39; clear p39 hs36
 refine Rg_nil ?_
 refine Wp_seq ?_
 clear f19 f22
 refine Wp_region ?_
 refine Rg_op rfl (op_loadA (cs := [(Value.int .i64 3), (Value.slice (some ⟨b1, 0, none⟩) [0, 1].length 2), (Value.slice (some ⟨b25, 0, none⟩) [[9, 2, (-1)], [4, 8, 30]].length 2)]) (vs := [(Value.int .i64 3), (Value.slice (some ⟨b1, 0, none⟩) [0, 1].length 2), (Value.slice (some ⟨b25, 0, none⟩) [[9, 2, (-1)], [4, 8, 30]].length 2)]) (i := 0) ty25 hs40 rfl rfl rfl rfl ?_)
 obtain ⟨hs42, p43, f41⟩ := Gs.publish (i := 2) hs40 rfl f31
 replace f32 := f32.step p43; clear p43 hs40
 obtain ⟨hs45, p46, f44⟩ := Gs.publish (i := 1) hs42 rfl f32
 replace f41 := f41.step p46; clear p46 hs42
 replace hm := bd hm; obtain ⟨best_1, hv47, hm⟩ := hm
 refine Rg_op rfl (op_call Try.call18 (c18_clearing_Best (r_ := (⟨3, [0, 1], [[9, 2, (-1)], [4, 8, 30]]⟩ : XRound)) hs45.ltw (show InK .i64 3 from by decide) f41 f44 hv47) rfl ?_)
 rintro v48 w49 ⟨hx50, h51⟩
 have hs52 := hs45.call hx50
 have p53 := Step.ext (O := ks [(some b33, Obj.cells [(Value.int .i64 3), (Value.slice (some ⟨b1, 0, none⟩) [0, 1].length 2), (Value.slice (some ⟨b25, 0, none⟩) [[9, 2, (-1)], [4, 8, 30]].length 2)].toArray 25)] O) hx50
 clear hx50
 replace f41 := f41.step p53; replace f44 := f44.step p53; clear p53 hs45
 obtain ⟨v54, v55, rfl, h56, h57⟩ := h51
 obtain ⟨a_y58, c_y58, rfl, f_y58⟩ := un_sl h56
 obtain ⟨rfl, r_y59⟩ := h57
 refine Rg_op rfl (op_move (v := (Value.tuple [(Value.slice a_y58 best_1.1.length c_y58), (Value.int .i64 best_1.2)].toArray)) rfl ?_)
 refine Rg_op rfl (op_extract (v := (Value.slice a_y58 best_1.1.length c_y58)) rfl rfl ?_)
 refine Rg_op rfl (op_extract (v := (Value.int .i64 best_1.2)) rfl rfl ?_)
 refine Rg_op rfl (op_assign (v := (Value.slice a_y58 best_1.1.length c_y58)) rfl ?_)
 refine Rg_op rfl (op_assign (v := (Value.int .i64 best_1.2)) rfl ?_)
 refine Rg_nil ?_
 refine Wp_seq ?_
 refine Wp_region ?_
 refine Rg_op rfl (op_loadA (cs := [(Value.int .i64 3), (Value.slice (some ⟨b1, 0, none⟩) [0, 1].length 2), (Value.slice (some ⟨b25, 0, none⟩) [[9, 2, (-1)], [4, 8, 30]].length 2)]) (vs := [(Value.int .i64 3), (Value.slice (some ⟨b1, 0, none⟩) [0, 1].length 2), (Value.slice (some ⟨b25, 0, none⟩) [[9, 2, (-1)], [4, 8, 30]].length 2)]) (i := 0) ty25 hs52 rfl rfl rfl rfl ?_)
 refine Rg_op rfl (op_move (v := (Value.slice a_y58 best_1.1.length c_y58)) rfl ?_)
 replace hm := bd hm; obtain ⟨value_1, hv60, hm⟩ := hm
 refine Rg_op rfl (op_call Try.call12 (c12_clearing_Value (r_ := (⟨3, [0, 1], [[9, 2, (-1)], [4, 8, 30]]⟩ : XRound)) (slots := best_1.1) hs52.ltw (show InK .i64 3 from by decide) f41 f44 f_y58 hv60) rfl ?_)
 rintro v61 w62 ⟨hx63, h64⟩
 have hs65 := hs52.call hx63
 have p66 := Step.ext (O := ks [(some b33, Obj.cells [(Value.int .i64 3), (Value.slice (some ⟨b1, 0, none⟩) [0, 1].length 2), (Value.slice (some ⟨b25, 0, none⟩) [[9, 2, (-1)], [4, 8, 30]].length 2)].toArray 25)] O) hx63
 clear hx63
 replace f41 := f41.step p66; replace f44 := f44.step p66; replace f_y58 := f_y58.step p66; clear p66 hs52
 obtain ⟨v67, v68, rfl, h69, h70⟩ := h64
 obtain ⟨a_y71, c_y71, rfl, f_y71⟩ := un_sl h69
 obtain ⟨rfl, r_y72⟩ := h70
 refine Rg_op rfl (op_move (v := (Value.tuple [(Value.slice a_y71 value_1.1.length c_y71), (Value.int .i64 value_1.2)].toArray)) rfl ?_)
 refine Rg_op rfl (op_extract (v := (Value.slice a_y71 value_1.1.length c_y71)) rfl rfl ?_)
 refine Rg_op rfl (op_extract (v := (Value.int .i64 value_1.2)) rfl rfl ?_)
 refine Rg_op rfl (op_assign (v := (Value.slice a_y71 value_1.1.length c_y71)) rfl ?_)
 refine Rg_op rfl (op_assign (v := (Value.int .i64 value_1.2)) rfl ?_)
 refine Rg_nil ?_
 refine Wp_seq ?_
 refine Wp_region ?_
 refine Rg_op rfl (op_loadA (cs := [(Value.int .i64 3), (Value.slice (some ⟨b1, 0, none⟩) [0, 1].length 2), (Value.slice (some ⟨b25, 0, none⟩) [[9, 2, (-1)], [4, 8, 30]].length 2)]) (vs := [(Value.int .i64 3), (Value.slice (some ⟨b1, 0, none⟩) [0, 1].length 2), (Value.slice (some ⟨b25, 0, none⟩) [[9, 2, (-1)], [4, 8, 30]].length 2)]) (i := 0) ty25 hs65 rfl rfl rfl rfl ?_)
 refine Rg_op rfl (op_move (v := (Value.slice a_y58 best_1.1.length c_y58)) rfl ?_)
 replace hm := bd hm; obtain ⟨cycles_1, hv73, hm⟩ := hm
 refine Rg_op rfl (op_call Try.call14 (c14_clearing_Cycles (r_ := (⟨3, [0, 1], [[9, 2, (-1)], [4, 8, 30]]⟩ : XRound)) (slots := best_1.1) hs65.ltw (show InK .i64 3 from by decide) f41 f44 f_y58 hv73) rfl ?_)
 rintro v74 w75 ⟨hx76, h77⟩
 have hs78 := hs65.call hx76
 have p79 := Step.ext (O := ks [(some b33, Obj.cells [(Value.int .i64 3), (Value.slice (some ⟨b1, 0, none⟩) [0, 1].length 2), (Value.slice (some ⟨b25, 0, none⟩) [[9, 2, (-1)], [4, 8, 30]].length 2)].toArray 25)] O) hx76
 clear hx76
 replace f41 := f41.step p79; replace f44 := f44.step p79; replace f_y58 := f_y58.step p79; replace f_y71 := f_y71.step p79; clear p79 hs65
 obtain ⟨v80, v81, rfl, h82, h83⟩ := h77
 obtain ⟨a_y84, c_y84, rfl, f_y84⟩ := un_sl h82
 obtain ⟨rfl, r_y85⟩ := h83
 refine Rg_op rfl (op_move (v := (Value.tuple [(Value.slice a_y84 cycles_1.1.length c_y84), (Value.int .i64 cycles_1.2)].toArray)) rfl ?_)
 refine Rg_op rfl (op_extract (v := (Value.slice a_y84 cycles_1.1.length c_y84)) rfl rfl ?_)
 refine Rg_op rfl (op_extract (v := (Value.int .i64 cycles_1.2)) rfl rfl ?_)
 refine Rg_op rfl (op_assign (v := (Value.slice a_y84 cycles_1.1.length c_y84)) rfl ?_)
 refine Rg_op rfl (op_assign (v := (Value.int .i64 cycles_1.2)) rfl ?_)
 refine Rg_nil ?_
 refine Wp_seq ?_
 refine Wp_reset [] [(1, (Value.pointer (some ⟨b33, 0, none⟩))), (2, (Value.slice a_y58 best_1.1.length c_y58)), (3, (Value.int .i64 best_1.2)), (4, (Value.slice a_y71 value_1.1.length c_y71)), (5, (Value.int .i64 value_1.2)), (6, (Value.slice a_y84 cycles_1.1.length c_y84)), (7, (Value.int .i64 cycles_1.2))] rfl ⟨rfl, rfl, rfl, rfl, rfl, rfl, rfl, trivial⟩ fun ξ86 => ?_
 refine Wp_region ?_
 refine Rg_op rfl (op_loadA (cs := [(Value.int .i64 3), (Value.slice (some ⟨b1, 0, none⟩) [0, 1].length 2), (Value.slice (some ⟨b25, 0, none⟩) [[9, 2, (-1)], [4, 8, 30]].length 2)]) (vs := [(Value.int .i64 3), (Value.slice (some ⟨b1, 0, none⟩) [0, 1].length 2), (Value.slice (some ⟨b25, 0, none⟩) [[9, 2, (-1)], [4, 8, 30]].length 2)]) (i := 0) ty25 hs78 rfl rfl rfl rfl ?_)
 refine Rg_op rfl (op_buildSlice (cs := [(Value.int .i64 1), (Value.int .i64 2)]) (parts := [(0, .const (.int .i64 1)), (1, .const (.int .i64 2))]) ty22 ty3 hs78 (by decide) rfl ?_)
 intro b87 w88 hx91 p89 hs90
 replace f41 := f41.step p89; replace f44 := f44.step p89; replace f_y58 := f_y58.step p89; replace f_y71 := f_y71.step p89; replace f_y84 := f_y84.step p89; clear p89 hs78
 obtain ⟨hs94, p95, f93⟩ := St.publish (i := 0) (o := 0) (c := 2) (xs := [1, 2]) hs90 rfl (show Els (rInt .i64) _ _ [(Value.int .i64 1), (Value.int .i64 2)] [1, 2] from ⟨_, _, rfl, (mk_int (show InK .i64 1 from by decide)), ⟨_, _, rfl, (mk_int (show InK .i64 2 from by decide)), Els.nil⟩⟩) (le_lit rfl) (le_lit rfl) (le_lit rfl)
 replace f41 := f41.step p95; replace f44 := f44.step p95; replace f_y58 := f_y58.step p95; replace f_y71 := f_y71.step p95; replace f_y84 := f_y84.step p95; clear p95 hs90
 replace hm := bd hm; obtain ⟨cycles_2, hv96, hm⟩ := hm
 refine Rg_op rfl (op_call Try.call14 (c14_clearing_Cycles (r_ := (⟨3, [0, 1], [[9, 2, (-1)], [4, 8, 30]]⟩ : XRound)) (slots := [1, 2]) hs94.ltw (show InK .i64 3 from by decide) f41 f44 f93 hv96) rfl ?_)
 rintro v97 w98 ⟨hx99, h100⟩
 have hs101 := hs94.call hx99
 have p102 := Step.ext (O := ks [(some b33, Obj.cells [(Value.int .i64 3), (Value.slice (some ⟨b1, 0, none⟩) [0, 1].length 2), (Value.slice (some ⟨b25, 0, none⟩) [[9, 2, (-1)], [4, 8, 30]].length 2)].toArray 25)] O) hx99
 clear hx99
 replace f41 := f41.step p102; replace f44 := f44.step p102; replace f_y58 := f_y58.step p102; replace f_y71 := f_y71.step p102; replace f_y84 := f_y84.step p102; replace f93 := f93.step p102; clear p102 hs94
 obtain ⟨v103, v104, rfl, h105, h106⟩ := h100
 obtain ⟨a_y107, c_y107, rfl, f_y107⟩ := un_sl h105
 obtain ⟨rfl, r_y108⟩ := h106
 refine Rg_op rfl (op_move (v := (Value.tuple [(Value.slice a_y107 cycles_2.1.length c_y107), (Value.int .i64 cycles_2.2)].toArray)) rfl ?_)
 refine Rg_op rfl (op_extract (v := (Value.slice a_y107 cycles_2.1.length c_y107)) rfl rfl ?_)
 refine Rg_op rfl (op_extract (v := (Value.int .i64 cycles_2.2)) rfl rfl ?_)
 refine Rg_op rfl (op_assign (v := (Value.slice a_y107 cycles_2.1.length c_y107)) rfl ?_)
 refine Rg_op rfl (op_assign (v := (Value.int .i64 cycles_2.2)) rfl ?_)
 refine Rg_nil ?_
 refine Wp_seq ?_
 clear f93
 refine Wp_region ?_
 refine Rg_op rfl (op_loadA (cs := [(Value.int .i64 3), (Value.slice (some ⟨b1, 0, none⟩) [0, 1].length 2), (Value.slice (some ⟨b25, 0, none⟩) [[9, 2, (-1)], [4, 8, 30]].length 2)]) (vs := [(Value.int .i64 3), (Value.slice (some ⟨b1, 0, none⟩) [0, 1].length 2), (Value.slice (some ⟨b25, 0, none⟩) [[9, 2, (-1)], [4, 8, 30]].length 2)]) (i := 0) ty25 hs101 rfl rfl rfl rfl ?_)
 refine Rg_op rfl (op_buildSlice (cs := [(Value.int .i64 0), (Value.int .i64 1)]) (parts := [(0, .const (.int .i64 0)), (1, .const (.int .i64 1))]) ty22 ty3 hs101 (by decide) rfl ?_)
 intro b109 w110 hx113 p111 hs112
 replace f41 := f41.step p111; replace f44 := f44.step p111; replace f_y58 := f_y58.step p111; replace f_y71 := f_y71.step p111; replace f_y84 := f_y84.step p111; replace f_y107 := f_y107.step p111; clear p111 hs101
 obtain ⟨hs116, p117, f115⟩ := St.publish (i := 0) (o := 0) (c := 2) (xs := [0, 1]) hs112 rfl (show Els (rInt .i64) _ _ [(Value.int .i64 0), (Value.int .i64 1)] [0, 1] from ⟨_, _, rfl, (mk_int (show InK .i64 0 from by decide)), ⟨_, _, rfl, (mk_int (show InK .i64 1 from by decide)), Els.nil⟩⟩) (le_lit rfl) (le_lit rfl) (le_lit rfl)
 replace f41 := f41.step p117; replace f44 := f44.step p117; replace f_y58 := f_y58.step p117; replace f_y71 := f_y71.step p117; replace f_y84 := f_y84.step p117; replace f_y107 := f_y107.step p117; clear p117 hs112
 replace hm := bd hm; obtain ⟨cycles_3, hv118, hm⟩ := hm
 refine Rg_op rfl (op_call Try.call14 (c14_clearing_Cycles (r_ := (⟨3, [0, 1], [[9, 2, (-1)], [4, 8, 30]]⟩ : XRound)) (slots := [0, 1]) hs116.ltw (show InK .i64 3 from by decide) f41 f44 f115 hv118) rfl ?_)
 rintro v119 w120 ⟨hx121, h122⟩
 have hs123 := hs116.call hx121
 have p124 := Step.ext (O := ks [(some b33, Obj.cells [(Value.int .i64 3), (Value.slice (some ⟨b1, 0, none⟩) [0, 1].length 2), (Value.slice (some ⟨b25, 0, none⟩) [[9, 2, (-1)], [4, 8, 30]].length 2)].toArray 25)] O) hx121
 clear hx121
 replace f41 := f41.step p124; replace f44 := f44.step p124; replace f_y58 := f_y58.step p124; replace f_y71 := f_y71.step p124; replace f_y84 := f_y84.step p124; replace f_y107 := f_y107.step p124; replace f115 := f115.step p124; clear p124 hs116
 obtain ⟨v125, v126, rfl, h127, h128⟩ := h122
 obtain ⟨a_y129, c_y129, rfl, f_y129⟩ := un_sl h127
 obtain ⟨rfl, r_y130⟩ := h128
 refine Rg_op rfl (op_move (v := (Value.tuple [(Value.slice a_y129 cycles_3.1.length c_y129), (Value.int .i64 cycles_3.2)].toArray)) rfl ?_)
 refine Rg_op rfl (op_extract (v := (Value.slice a_y129 cycles_3.1.length c_y129)) rfl rfl ?_)
 refine Rg_op rfl (op_extract (v := (Value.int .i64 cycles_3.2)) rfl rfl ?_)
 refine Rg_op rfl (op_assign (v := (Value.slice a_y129 cycles_3.1.length c_y129)) rfl ?_)
 refine Rg_op rfl (op_assign (v := (Value.int .i64 cycles_3.2)) rfl ?_)
 refine Rg_nil ?_
 refine Wp_seq ?_
 clear f115
 refine Wp_region ?_
 refine Rg_op rfl (op_build (vs := [(Value.int .i64 1), (Value.slice none 0 0), (Value.slice none 0 0)]) (parts := [(0, .const (.int .i64 1))]) ty25 pl25 rfl ?_)
 replace hm := bd hm; obtain ⟨best_2, hv131, hm⟩ := hm
 refine Rg_op rfl (op_call Try.call18 (c18_clearing_Best (r_ := (⟨1, ([] : List Int), ([] : List (List Int))⟩ : XRound)) hs123.ltw (show InK .i64 1 from by decide) SlR.nil_ SlR.nil_ hv131) rfl ?_)
 rintro v132 w133 ⟨hx134, h135⟩
 have hs136 := hs123.call hx134
 have p137 := Step.ext (O := ks [(some b33, Obj.cells [(Value.int .i64 3), (Value.slice (some ⟨b1, 0, none⟩) [0, 1].length 2), (Value.slice (some ⟨b25, 0, none⟩) [[9, 2, (-1)], [4, 8, 30]].length 2)].toArray 25)] O) hx134
 clear hx134
 replace f41 := f41.step p137; replace f44 := f44.step p137; replace f_y58 := f_y58.step p137; replace f_y71 := f_y71.step p137; replace f_y84 := f_y84.step p137; replace f_y107 := f_y107.step p137; replace f_y129 := f_y129.step p137; clear p137 hs123
 obtain ⟨v138, v139, rfl, h140, h141⟩ := h135
 obtain ⟨a_y142, c_y142, rfl, f_y142⟩ := un_sl h140
 obtain ⟨rfl, r_y143⟩ := h141
 refine Rg_op rfl (op_move (v := (Value.tuple [(Value.slice a_y142 best_2.1.length c_y142), (Value.int .i64 best_2.2)].toArray)) rfl ?_)
 refine Rg_op rfl (op_extract (v := (Value.slice a_y142 best_2.1.length c_y142)) rfl rfl ?_)
 refine Rg_op rfl (op_extract (v := (Value.int .i64 best_2.2)) rfl rfl ?_)
 refine Rg_op rfl (op_assign (v := (Value.slice a_y142 best_2.1.length c_y142)) rfl ?_)
 refine Rg_op rfl (op_assign (v := (Value.int .i64 best_2.2)) rfl ?_)
 refine Rg_nil ?_
 refine Wp_seq ?_
 refine Wp_region ?_
 refine Rg_op rfl (op_build (vs := [(Value.int .i64 0), (Value.slice none 0 0), (Value.slice none 0 0)]) (parts := []) ty25 pl25 rfl ?_)
 replace hm := bd hm; obtain ⟨best_3, hv144, hm⟩ := hm
 refine Rg_op rfl (op_call Try.call18 (c18_clearing_Best (r_ := (⟨0, ([] : List Int), ([] : List (List Int))⟩ : XRound)) hs136.ltw (show InK .i64 0 from by decide) SlR.nil_ SlR.nil_ hv144) rfl ?_)
 rintro v145 w146 ⟨hx147, h148⟩
 have hs149 := hs136.call hx147
 have p150 := Step.ext (O := ks [(some b33, Obj.cells [(Value.int .i64 3), (Value.slice (some ⟨b1, 0, none⟩) [0, 1].length 2), (Value.slice (some ⟨b25, 0, none⟩) [[9, 2, (-1)], [4, 8, 30]].length 2)].toArray 25)] O) hx147
 clear hx147
 replace f41 := f41.step p150; replace f44 := f44.step p150; replace f_y58 := f_y58.step p150; replace f_y71 := f_y71.step p150; replace f_y84 := f_y84.step p150; replace f_y107 := f_y107.step p150; replace f_y129 := f_y129.step p150; replace f_y142 := f_y142.step p150; clear p150 hs136
 obtain ⟨v151, v152, rfl, h153, h154⟩ := h148
 obtain ⟨a_y155, c_y155, rfl, f_y155⟩ := un_sl h153
 obtain ⟨rfl, r_y156⟩ := h154
 refine Rg_op rfl (op_move (v := (Value.tuple [(Value.slice a_y155 best_3.1.length c_y155), (Value.int .i64 best_3.2)].toArray)) rfl ?_)
 refine Rg_op rfl (op_extract (v := (Value.slice a_y155 best_3.1.length c_y155)) rfl rfl ?_)
 refine Rg_op rfl (op_extract (v := (Value.int .i64 best_3.2)) rfl rfl ?_)
 refine Rg_op rfl (op_assign (v := (Value.slice a_y155 best_3.1.length c_y155)) rfl ?_)
 refine Rg_op rfl (op_assign (v := (Value.int .i64 best_3.2)) rfl ?_)
 refine Rg_nil ?_
 refine Wp_seq ?_
 clear f_y155
 refine Wp_reset [] [(1, (Value.pointer (some ⟨b33, 0, none⟩))), (2, (Value.slice a_y58 best_1.1.length c_y58)), (3, (Value.int .i64 best_1.2)), (4, (Value.slice a_y71 value_1.1.length c_y71)), (5, (Value.int .i64 value_1.2)), (6, (Value.slice a_y84 cycles_1.1.length c_y84)), (7, (Value.int .i64 cycles_1.2)), (8, (Value.slice a_y107 cycles_2.1.length c_y107)), (9, (Value.int .i64 cycles_2.2)), (10, (Value.slice a_y129 cycles_3.1.length c_y129)), (11, (Value.int .i64 cycles_3.2)), (12, (Value.slice a_y142 best_2.1.length c_y142)), (13, (Value.int .i64 best_2.2)), (15, (Value.int .i64 best_3.2))] rfl ⟨rfl, rfl, rfl, rfl, rfl, rfl, rfl, rfl, rfl, rfl, rfl, rfl, rfl, rfl, trivial⟩ fun ξ157 => ?_
 refine Wp_region ?_
 refine Rg_op rfl (op_buildSlice (cs := [(Value.int .i64 0), (Value.int .i64 1)]) (parts := [(0, .const (.int .i64 0)), (1, .const (.int .i64 1))]) ty22 ty3 hs149 (by decide) rfl ?_)
 intro b158 w159 hx162 p160 hs161
 replace f41 := f41.step p160; replace f44 := f44.step p160; replace f_y58 := f_y58.step p160; replace f_y71 := f_y71.step p160; replace f_y84 := f_y84.step p160; replace f_y107 := f_y107.step p160; replace f_y129 := f_y129.step p160; replace f_y142 := f_y142.step p160; clear p160 hs149
 refine Rg_op rfl (op_buildSlice (cs := [(Value.int .i64 1), (Value.int .i64 2)]) (parts := [(0, .const (.int .i64 1)), (1, .const (.int .i64 2))]) ty22 ty3 hs161 (by decide) rfl ?_)
 intro b164 w165 hx168 p166 hs167
 replace f41 := f41.step p166; replace f44 := f44.step p166; replace f_y58 := f_y58.step p166; replace f_y71 := f_y71.step p166; replace f_y84 := f_y84.step p166; replace f_y107 := f_y107.step p166; replace f_y129 := f_y129.step p166; replace f_y142 := f_y142.step p166; clear p166 hs161
 refine Rg_op rfl (op_buildSlice (cs := [(Value.int .i64 2), (Value.int .i64 1)]) (parts := [(0, .const (.int .i64 2)), (1, .const (.int .i64 1))]) ty22 ty3 hs167 (by decide) rfl ?_)
 intro b170 w171 hx174 p172 hs173
 replace f41 := f41.step p172; replace f44 := f44.step p172; replace f_y58 := f_y58.step p172; replace f_y71 := f_y71.step p172; replace f_y84 := f_y84.step p172; replace f_y107 := f_y107.step p172; replace f_y129 := f_y129.step p172; replace f_y142 := f_y142.step p172; clear p172 hs167
 obtain ⟨hs177, p178, f176⟩ := St.publish (i := 1) (o := 0) (c := 2) (xs := [1, 2]) hs173 rfl (show Els (rInt .i64) _ _ [(Value.int .i64 1), (Value.int .i64 2)] [1, 2] from ⟨_, _, rfl, (mk_int (show InK .i64 1 from by decide)), ⟨_, _, rfl, (mk_int (show InK .i64 2 from by decide)), Els.nil⟩⟩) (le_lit rfl) (le_lit rfl) (le_lit rfl)
 replace f41 := f41.step p178; replace f44 := f44.step p178; replace f_y58 := f_y58.step p178; replace f_y71 := f_y71.step p178; replace f_y84 := f_y84.step p178; replace f_y107 := f_y107.step p178; replace f_y129 := f_y129.step p178; replace f_y142 := f_y142.step p178; clear p178 hs173
 obtain ⟨hs180, p181, f179⟩ := St.publish (i := 0) (o := 0) (c := 2) (xs := [2, 1]) hs177 rfl (show Els (rInt .i64) _ _ [(Value.int .i64 2), (Value.int .i64 1)] [2, 1] from ⟨_, _, rfl, (mk_int (show InK .i64 2 from by decide)), ⟨_, _, rfl, (mk_int (show InK .i64 1 from by decide)), Els.nil⟩⟩) (le_lit rfl) (le_lit rfl) (le_lit rfl)
 replace f41 := f41.step p181; replace f44 := f44.step p181; replace f_y58 := f_y58.step p181; replace f_y71 := f_y71.step p181; replace f_y84 := f_y84.step p181; replace f_y107 := f_y107.step p181; replace f_y129 := f_y129.step p181; replace f_y142 := f_y142.step p181; replace f176 := f176.step p181; clear p181 hs177
 refine Rg_op rfl (op_buildSlice (cs := [(Value.slice (some ⟨b164, 0, none⟩) [1, 2].length 2), (Value.slice (some ⟨b170, 0, none⟩) [2, 1].length 2)]) (parts := [(0, .tmp 64), (1, .tmp 65)]) ty23 ty22 hs180 (by decide) rfl ?_)
 intro b182 w183 hx186 p184 hs185
 replace f41 := f41.step p184; replace f44 := f44.step p184; replace f_y58 := f_y58.step p184; replace f_y71 := f_y71.step p184; replace f_y84 := f_y84.step p184; replace f_y107 := f_y107.step p184; replace f_y129 := f_y129.step p184; replace f_y142 := f_y142.step p184; replace f176 := f176.step p184; replace f179 := f179.step p184; clear p184 hs180
 have f188 := Gs.of_cells (p := (rInt .i64)) (e := 3) (bl := b158) (c := 2) (w := w183) (O := ks [(some b182, Obj.cells [(Value.slice (some ⟨b164, 0, none⟩) [1, 2].length 2), (Value.slice (some ⟨b170, 0, none⟩) [2, 1].length 2)].toArray 22), (some b158, Obj.cells [(Value.int .i64 0), (Value.int .i64 1)].toArray 3), (some b33, Obj.cells [(Value.int .i64 3), (Value.slice (some ⟨b1, 0, none⟩) [0, 1].length 2), (Value.slice (some ⟨b25, 0, none⟩) [[9, 2, (-1)], [4, 8, 30]].length 2)].toArray 25)] O) (show Els (rInt .i64) _ _ [(Value.int .i64 0), (Value.int .i64 1)] [0, 1] from ⟨_, _, rfl, (mk_int (show InK .i64 0 from by decide)), ⟨_, _, rfl, (mk_int (show InK .i64 1 from by decide)), Els.nil⟩⟩) rfl (le_lit rfl)
 have f189 := Gs.of_cells (p := (rSl (rInt .i64))) (e := 22) (bl := b182) (c := 2) (w := w183) (O := ks [(some b182, Obj.cells [(Value.slice (some ⟨b164, 0, none⟩) [1, 2].length 2), (Value.slice (some ⟨b170, 0, none⟩) [2, 1].length 2)].toArray 22), (some b158, (Obj.cells [(Value.int .i64 0), (Value.int .i64 1)].toArray 3)), (some b33, Obj.cells [(Value.int .i64 3), (Value.slice (some ⟨b1, 0, none⟩) [0, 1].length 2), (Value.slice (some ⟨b25, 0, none⟩) [[9, 2, (-1)], [4, 8, 30]].length 2)].toArray 25)] O) (show Els (rSl (rInt .i64)) _ _ [(Value.slice (some ⟨b164, 0, none⟩) [1, 2].length 2), (Value.slice (some ⟨b170, 0, none⟩) [2, 1].length 2)] [[1, 2], [2, 1]] from ⟨_, _, rfl, (mk_sl f176), ⟨_, _, rfl, (mk_sl f179), Els.nil⟩⟩) rfl (le_lit rfl)
 refine Rg_op rfl (op_build (vs := [(Value.int .i64 2), (Value.slice (some ⟨b158, 0, none⟩) [0, 1].length 2), (Value.slice (some ⟨b182, 0, none⟩) [[1, 2], [2, 1]].length 2)]) (parts := [(0, .const (.int .i64 2)), (1, .tmp 63), (2, .tmp 66)]) ty25 pl25 rfl ?_)
 refine Rg_op rfl (op_alloc ty25 hs185 ?_)
 intro b190 w191 _ p192 hs193
 replace f41 := f41.step p192; replace f44 := f44.step p192; replace f_y58 := f_y58.step p192; replace f_y71 := f_y71.step p192; replace f_y84 := f_y84.step p192; replace f_y107 := f_y107.step p192; replace f_y129 := f_y129.step p192; replace f_y142 := f_y142.step p192; replace f176 := f176.step p192; replace f179 := f179.step p192; replace f188 := f188.step p192; replace f189 := f189.step p192; clear p192 hs185
 refine Rg_op_ (op_store (cs := [(Value.int .i64 0), (Value.slice none 0 0), (Value.slice none 0 0)]) (vs := [(Value.int .i64 2), (Value.slice (some ⟨b158, 0, none⟩) [0, 1].length 2), (Value.slice (some ⟨b182, 0, none⟩) [[1, 2], [2, 1]].length 2)]) (cs' := [(Value.int .i64 2), (Value.slice (some ⟨b158, 0, none⟩) [0, 1].length 2), (Value.slice (some ⟨b182, 0, none⟩) [[1, 2], [2, 1]].length 2)]) (bs' := [(some b190, Obj.cells [(Value.int .i64 2), (Value.slice (some ⟨b158, 0, none⟩) [0, 1].length 2), (Value.slice (some ⟨b182, 0, none⟩) [[1, 2], [2, 1]].length 2)].toArray 25), (some b182, (Obj.cells [(Value.slice (some ⟨b164, 0, none⟩) [1, 2].length 2), (Value.slice (some ⟨b170, 0, none⟩) [2, 1].length 2)].toArray 22)), (some b158, (Obj.cells [(Value.int .i64 0), (Value.int .i64 1)].toArray 3)), (some b33, Obj.cells [(Value.int .i64 3), (Value.slice (some ⟨b1, 0, none⟩) [0, 1].length 2), (Value.slice (some ⟨b25, 0, none⟩) [[9, 2, (-1)], [4, 8, 30]].length 2)].toArray 25)]) (i := 0) ty25 hs193 rfl rfl rfl rfl rfl (le_lit rfl) rfl rfl rfl ?_)
 intro w195 p196 hs197
 replace f41 := f41.step p196; replace f44 := f44.step p196; replace f_y58 := f_y58.step p196; replace f_y71 := f_y71.step p196; replace f_y84 := f_y84.step p196; replace f_y107 := f_y107.step p196; replace f_y129 := f_y129.step p196; replace f_y142 := f_y142.step p196; replace f176 := f176.step p196; replace f179 := f179.step p196; replace f188 := f188.step p196; replace f189 := f189.step p196; clear p196 hs193
 refine Rg_nil ?_
 refine Wp_seq ?_
 clear f176 f179
 refine Wp_region ?_
 refine Rg_op rfl (op_loadA (cs := [(Value.int .i64 2), (Value.slice (some ⟨b158, 0, none⟩) [0, 1].length 2), (Value.slice (some ⟨b182, 0, none⟩) [[1, 2], [2, 1]].length 2)]) (vs := [(Value.int .i64 2), (Value.slice (some ⟨b158, 0, none⟩) [0, 1].length 2), (Value.slice (some ⟨b182, 0, none⟩) [[1, 2], [2, 1]].length 2)]) (i := 0) ty25 hs197 rfl rfl rfl rfl ?_)
 obtain ⟨hs199, p200, f198⟩ := Gs.publish (i := 2) hs197 rfl f188
 replace f41 := f41.step p200; replace f44 := f44.step p200; replace f_y58 := f_y58.step p200; replace f_y71 := f_y71.step p200; replace f_y84 := f_y84.step p200; replace f_y107 := f_y107.step p200; replace f_y129 := f_y129.step p200; replace f_y142 := f_y142.step p200; replace f189 := f189.step p200; clear p200 hs197
 obtain ⟨hs202, p203, f201⟩ := Gs.publish (i := 1) hs199 rfl f189
 replace f41 := f41.step p203; replace f44 := f44.step p203; replace f_y58 := f_y58.step p203; replace f_y71 := f_y71.step p203; replace f_y84 := f_y84.step p203; replace f_y107 := f_y107.step p203; replace f_y129 := f_y129.step p203; replace f_y142 := f_y142.step p203; replace f198 := f198.step p203; clear p203 hs199
 replace hm := bd hm; obtain ⟨best_4, hv204, hm⟩ := hm
 refine Rg_op rfl (op_call Try.call18 (c18_clearing_Best (r_ := (⟨2, [0, 1], [[1, 2], [2, 1]]⟩ : XRound)) hs202.ltw (show InK .i64 2 from by decide) f198 f201 hv204) rfl ?_)
 rintro v205 w206 ⟨hx207, h208⟩
 have hs209 := hs202.call hx207
 have p210 := Step.ext (O := ks [(some b190, Obj.cells [(Value.int .i64 2), (Value.slice (some ⟨b158, 0, none⟩) [0, 1].length 2), (Value.slice (some ⟨b182, 0, none⟩) [[1, 2], [2, 1]].length 2)].toArray 25), (some b33, Obj.cells [(Value.int .i64 3), (Value.slice (some ⟨b1, 0, none⟩) [0, 1].length 2), (Value.slice (some ⟨b25, 0, none⟩) [[9, 2, (-1)], [4, 8, 30]].length 2)].toArray 25)] O) hx207
 clear hx207
 replace f41 := f41.step p210; replace f44 := f44.step p210; replace f_y58 := f_y58.step p210; replace f_y71 := f_y71.step p210; replace f_y84 := f_y84.step p210; replace f_y107 := f_y107.step p210; replace f_y129 := f_y129.step p210; replace f_y142 := f_y142.step p210; replace f198 := f198.step p210; replace f201 := f201.step p210; clear p210 hs202
 obtain ⟨v211, v212, rfl, h213, h214⟩ := h208
 obtain ⟨a_y215, c_y215, rfl, f_y215⟩ := un_sl h213
 obtain ⟨rfl, r_y216⟩ := h214
 refine Rg_op rfl (op_move (v := (Value.tuple [(Value.slice a_y215 best_4.1.length c_y215), (Value.int .i64 best_4.2)].toArray)) rfl ?_)
 refine Rg_op rfl (op_extract (v := (Value.slice a_y215 best_4.1.length c_y215)) rfl rfl ?_)
 refine Rg_op rfl (op_extract (v := (Value.int .i64 best_4.2)) rfl rfl ?_)
 refine Rg_op rfl (op_assign (v := (Value.slice a_y215 best_4.1.length c_y215)) rfl ?_)
 refine Rg_op rfl (op_assign (v := (Value.int .i64 best_4.2)) rfl ?_)
 refine Rg_nil ?_
 refine Wp_reset [] [(1, (Value.pointer (some ⟨b33, 0, none⟩))), (2, (Value.slice a_y58 best_1.1.length c_y58)), (3, (Value.int .i64 best_1.2)), (4, (Value.slice a_y71 value_1.1.length c_y71)), (5, (Value.int .i64 value_1.2)), (6, (Value.slice a_y84 cycles_1.1.length c_y84)), (7, (Value.int .i64 cycles_1.2)), (8, (Value.slice a_y107 cycles_2.1.length c_y107)), (9, (Value.int .i64 cycles_2.2)), (10, (Value.slice a_y129 cycles_3.1.length c_y129)), (11, (Value.int .i64 cycles_3.2)), (12, (Value.slice a_y142 best_2.1.length c_y142)), (13, (Value.int .i64 best_2.2)), (15, (Value.int .i64 best_3.2)), (17, (Value.slice a_y215 best_4.1.length c_y215)), (18, (Value.int .i64 best_4.2))] rfl ⟨rfl, rfl, rfl, rfl, rfl, rfl, rfl, rfl, rfl, rfl, rfl, rfl, rfl, rfl, rfl, rfl, trivial⟩ fun ξ217 => ?_
 replace hm := jn_elim hm; obtain ⟨k219, hk220, hm⟩ := hm
 refine Wp_seqJ [0, 73, 74, 75, 76, 77, 78, 79, 80, 81, 82, 83, 84, 85, 86, 87, 88, 89, 90, 91, 92, 93, 94, 95, 96, 97, 98, 99, 100, 101, 102, 103, 104, 105, 106, 107, 108, 109, 110, 111, 112, 113, 114, 115, 116, 117, 118, 119, 120, 121, 122, 123, 124, 125, 126, 127, 128, 129, 130, 131, 132, 133, 134, 135, 136, 137, 138, 139, 140, 141, 142, 143, 144, 145, 146, 147, 148, 149, 150, 151, 152, 153, 154, 155, 156, 157] (fun fr w' => ∃ (v_1 : Bool) (Ebs : Ents), Ebs = [(some b190, Obj.cells [(Value.int .i64 2), (Value.slice (some ⟨b158, 0, none⟩) [0, 1].length 2), (Value.slice (some ⟨b182, 0, none⟩) [[1, 2], [2, 1]].length 2)].toArray 25), (some b33, Obj.cells [(Value.int .i64 3), (Value.slice (some ⟨b1, 0, none⟩) [0, 1].length 2), (Value.slice (some ⟨b25, 0, none⟩) [[9, 2, (-1)], [4, 8, 30]].length 2)].toArray 25)] ∧ fr [] [(0, (Value.bool v_1))] ∧ Step (ks [(some b190, Obj.cells [(Value.int .i64 2), (Value.slice (some ⟨b158, 0, none⟩) [0, 1].length 2), (Value.slice (some ⟨b182, 0, none⟩) [[1, 2], [2, 1]].length 2)].toArray 25), (some b33, Obj.cells [(Value.int .i64 3), (Value.slice (some ⟨b1, 0, none⟩) [0, 1].length 2), (Value.slice (some ⟨b25, 0, none⟩) [[9, 2, (-1)], [4, 8, 30]].length 2)].toArray 25)] O) w206 (ks Ebs O) w' ∧ St ⟨w, [], []⟩ O w' Ebs ∧ k219 v_1 = some x) ?_ ?_
 ·
  rintro ρ226 w222 ⟨v_1, Ebs, hEbs, hfr225, hst224, hs223, hm⟩
  replace hm := jnE1 hk220 hm
  subst hEbs; rw [hfr225.eq]; clear hfr225
  replace f41 := f41.step hst224; replace f44 := f44.step hst224; replace f_y58 := f_y58.step hst224; replace f_y71 := f_y71.step hst224; replace f_y84 := f_y84.step hst224; replace f_y107 := f_y107.step hst224; replace f_y129 := f_y129.step hst224; replace f_y142 := f_y142.step hst224; replace f198 := f198.step hst224; replace f201 := f201.step hst224; replace f_y215 := f_y215.step hst224; clear hst224 hs209
  refine Wp_ret ?_
  have hz := step_all hs223
  replace f41 := f41.step hz; replace f44 := f44.step hz; replace f_y58 := f_y58.step hz; replace f_y71 := f_y71.step hz; replace f_y84 := f_y84.step hz; replace f_y107 := f_y107.step hz; replace f_y129 := f_y129.step hz; replace f_y142 := f_y142.step hz; replace f198 := f198.step hz; replace f201 := f201.step hz; replace f_y215 := f_y215.step hz
  refine ⟨_, (show Closes [] _ _ from rfl), [(Value.bool v_1)], ⟨rfl, trivial⟩, hs223.ext, ?_⟩
  exact Vr.eq (a := vB) (x := v_1) rfl (Option.some.inj hm)
 ·
  intro K221 hK221
  have ch227 := Step.refl (ks [(some b190, Obj.cells [(Value.int .i64 2), (Value.slice (some ⟨b158, 0, none⟩) [0, 1].length 2), (Value.slice (some ⟨b182, 0, none⟩) [[1, 2], [2, 1]].length 2)].toArray 25), (some b33, Obj.cells [(Value.int .i64 3), (Value.slice (some ⟨b1, 0, none⟩) [0, 1].length 2), (Value.slice (some ⟨b25, 0, none⟩) [[9, 2, (-1)], [4, 8, 30]].length 2)].toArray 25)] O) w206
  refine Wp_region ?_
  refine Rg_op rfl (op_move (v := (Value.int .i64 best_1.2)) rfl ?_)
  refine Rg_op rfl (op_eql rfl rfl ?_)
  refine Rg_op rfl (op_move (v := (Value.bool (decide (best_1.2 = 0)))) rfl ?_)
  refine Rg_case (fun hg228 => ?_) (fun hg228 => ?_)
  ·
   replace hm := bif_t hm hg228
   refine Rg_opg rfl rfl rfl (op_move (v := (Value.slice a_y58 best_1.1.length c_y58)) rfl ?_)
   refine Rg_opg rfl rfl rfl (op_buildSlice (cs := [(Value.int .i64 1), (Value.int .i64 0)]) (parts := [(0, .const (.int .i64 1)), (1, .const (.int .i64 0))]) ty22 ty3 hs209 (by decide) rfl ?_)
   intro b229 w230 hx233 p231 hs232
   replace f41 := f41.step p231; replace f44 := f44.step p231; replace f_y58 := f_y58.step p231; replace f_y71 := f_y71.step p231; replace f_y84 := f_y84.step p231; replace f_y107 := f_y107.step p231; replace f_y129 := f_y129.step p231; replace f_y142 := f_y142.step p231; replace f198 := f198.step p231; replace f201 := f201.step p231; replace f_y215 := f_y215.step p231; replace ch227 := ch227.trans p231; clear p231 hs209
   obtain ⟨hs236, p237, f235⟩ := St.publish (i := 0) (o := 0) (c := 2) (xs := [1, 0]) hs232 rfl (show Els (rInt .i64) _ _ [(Value.int .i64 1), (Value.int .i64 0)] [1, 0] from ⟨_, _, rfl, (mk_int (show InK .i64 1 from by decide)), ⟨_, _, rfl, (mk_int (show InK .i64 0 from by decide)), Els.nil⟩⟩) (le_lit rfl) (le_lit rfl) (le_lit rfl)
   replace f41 := f41.step p237; replace f44 := f44.step p237; replace f_y58 := f_y58.step p237; replace f_y71 := f_y71.step p237; replace f_y84 := f_y84.step p237; replace f_y107 := f_y107.step p237; replace f_y129 := f_y129.step p237; replace f_y142 := f_y142.step p237; replace f198 := f198.step p237; replace f201 := f201.step p237; replace f_y215 := f_y215.step p237; replace ch227 := ch227.trans p237; clear p237 hs232
   replace hm := bd hm; obtain ⟨sameints_1, hv238, hm⟩ := hm
   refine Rg_opg rfl rfl rfl (op_call Try.call16 (c16_overflightref37_SameInts (a := best_1.1) (b := [1, 0]) hs236.ltw f_y58 f235 hv238) rfl ?_)
   rintro v239 w240 ⟨hx241, h242⟩
   have hs243 := hs236.call hx241
   have p244 := Step.ext (O := ks [(some b190, Obj.cells [(Value.int .i64 2), (Value.slice (some ⟨b158, 0, none⟩) [0, 1].length 2), (Value.slice (some ⟨b182, 0, none⟩) [[1, 2], [2, 1]].length 2)].toArray 25), (some b33, Obj.cells [(Value.int .i64 3), (Value.slice (some ⟨b1, 0, none⟩) [0, 1].length 2), (Value.slice (some ⟨b25, 0, none⟩) [[9, 2, (-1)], [4, 8, 30]].length 2)].toArray 25)] O) hx241
   clear hx241
   replace f41 := f41.step p244; replace f44 := f44.step p244; replace f_y58 := f_y58.step p244; replace f_y71 := f_y71.step p244; replace f_y84 := f_y84.step p244; replace f_y107 := f_y107.step p244; replace f_y129 := f_y129.step p244; replace f_y142 := f_y142.step p244; replace f198 := f198.step p244; replace f201 := f201.step p244; replace f_y215 := f_y215.step p244; replace f235 := f235.step p244; replace ch227 := ch227.trans p244; clear p244 hs236
   obtain rfl := h242
   refine Rg_op rfl (op_pick_t (v := (Value.bool sameints_1)) rfl rfl ?_)
   refine Rg_op rfl (op_move (v := (Value.bool sameints_1)) rfl ?_)
   refine Rg_case (fun hg246 => ?_) (fun hg246 => ?_)
   ·
    replace hm := bif_t hm hg246
    refine Rg_opg rfl rfl rfl (op_move (v := (Value.int .i64 value_1.2)) rfl ?_)
    refine Rg_opg rfl rfl rfl (op_eql rfl rfl ?_)
    refine Rg_op rfl (op_pick_t (v := (Value.bool (decide (value_1.2 = 0)))) rfl rfl ?_)
    refine Rg_op rfl (op_move (v := (Value.bool (decide (value_1.2 = 0)))) rfl ?_)
    refine Rg_case (fun hg247 => ?_) (fun hg247 => ?_)
    ·
     replace hm := bif_t hm hg247
     refine Rg_opg rfl rfl rfl (op_move (v := (Value.slice a_y71 value_1.1.length c_y71)) rfl ?_)
     refine Rg_opg rfl rfl rfl (op_buildSlice (cs := [(Value.int .i64 6), (Value.int .i64 2)]) (parts := [(0, .const (.int .i64 6)), (1, .const (.int .i64 2))]) ty22 ty3 hs243 (by decide) rfl ?_)
     intro b248 w249 hx252 p250 hs251
     replace f41 := f41.step p250; replace f44 := f44.step p250; replace f_y58 := f_y58.step p250; replace f_y71 := f_y71.step p250; replace f_y84 := f_y84.step p250; replace f_y107 := f_y107.step p250; replace f_y129 := f_y129.step p250; replace f_y142 := f_y142.step p250; replace f198 := f198.step p250; replace f201 := f201.step p250; replace f_y215 := f_y215.step p250; replace f235 := f235.step p250; replace ch227 := ch227.trans p250; clear p250 hs243
     obtain ⟨hs255, p256, f254⟩ := St.publish (i := 0) (o := 0) (c := 2) (xs := [6, 2]) hs251 rfl (show Els (rInt .i64) _ _ [(Value.int .i64 6), (Value.int .i64 2)] [6, 2] from ⟨_, _, rfl, (mk_int (show InK .i64 6 from by decide)), ⟨_, _, rfl, (mk_int (show InK .i64 2 from by decide)), Els.nil⟩⟩) (le_lit rfl) (le_lit rfl) (le_lit rfl)
     replace f41 := f41.step p256; replace f44 := f44.step p256; replace f_y58 := f_y58.step p256; replace f_y71 := f_y71.step p256; replace f_y84 := f_y84.step p256; replace f_y107 := f_y107.step p256; replace f_y129 := f_y129.step p256; replace f_y142 := f_y142.step p256; replace f198 := f198.step p256; replace f201 := f201.step p256; replace f_y215 := f_y215.step p256; replace f235 := f235.step p256; replace ch227 := ch227.trans p256; clear p256 hs251
     replace hm := bd hm; obtain ⟨sameints_2, hv257, hm⟩ := hm
     refine Rg_opg rfl rfl rfl (op_call Try.call16 (c16_overflightref37_SameInts (a := value_1.1) (b := [6, 2]) hs255.ltw f_y71 f254 hv257) rfl ?_)
     rintro v258 w259 ⟨hx260, h261⟩
     have hs262 := hs255.call hx260
     have p263 := Step.ext (O := ks [(some b190, Obj.cells [(Value.int .i64 2), (Value.slice (some ⟨b158, 0, none⟩) [0, 1].length 2), (Value.slice (some ⟨b182, 0, none⟩) [[1, 2], [2, 1]].length 2)].toArray 25), (some b33, Obj.cells [(Value.int .i64 3), (Value.slice (some ⟨b1, 0, none⟩) [0, 1].length 2), (Value.slice (some ⟨b25, 0, none⟩) [[9, 2, (-1)], [4, 8, 30]].length 2)].toArray 25)] O) hx260
     clear hx260
     replace f41 := f41.step p263; replace f44 := f44.step p263; replace f_y58 := f_y58.step p263; replace f_y71 := f_y71.step p263; replace f_y84 := f_y84.step p263; replace f_y107 := f_y107.step p263; replace f_y129 := f_y129.step p263; replace f_y142 := f_y142.step p263; replace f198 := f198.step p263; replace f201 := f201.step p263; replace f_y215 := f_y215.step p263; replace f235 := f235.step p263; replace f254 := f254.step p263; replace ch227 := ch227.trans p263; clear p263 hs255
     obtain rfl := h261
     refine Rg_op rfl (op_pick_t (v := (Value.bool sameints_2)) rfl rfl ?_)
     refine Rg_op rfl (op_move (v := (Value.bool sameints_2)) rfl ?_)
     refine Rg_case (fun hg265 => ?_) (fun hg265 => ?_)
     ·
      replace hm := bif_t hm hg265
      refine Rg_opg rfl rfl rfl (op_move (v := (Value.int .i64 cycles_1.2)) rfl ?_)
      refine Rg_opg rfl rfl rfl (op_eql rfl rfl ?_)
      refine Rg_op rfl (op_pick_t (v := (Value.bool (decide (cycles_1.2 = 0)))) rfl rfl ?_)
      refine Rg_op rfl (op_move (v := (Value.bool (decide (cycles_1.2 = 0)))) rfl ?_)
      refine Rg_case (fun hg266 => ?_) (fun hg266 => ?_)
      ·
       replace hm := bif_t hm hg266
       refine Rg_opg rfl rfl rfl (op_move (v := (Value.slice a_y84 cycles_1.1.length c_y84)) rfl ?_)
       refine Rg_opg rfl rfl rfl (op_buildSlice (cs := [(Value.int .i64 0), (Value.int .i64 1)]) (parts := [(0, .const (.int .i64 0)), (1, .const (.int .i64 1))]) ty22 ty3 hs262 (by decide) rfl ?_)
       intro b267 w268 hx271 p269 hs270
       replace f41 := f41.step p269; replace f44 := f44.step p269; replace f_y58 := f_y58.step p269; replace f_y71 := f_y71.step p269; replace f_y84 := f_y84.step p269; replace f_y107 := f_y107.step p269; replace f_y129 := f_y129.step p269; replace f_y142 := f_y142.step p269; replace f198 := f198.step p269; replace f201 := f201.step p269; replace f_y215 := f_y215.step p269; replace f235 := f235.step p269; replace f254 := f254.step p269; replace ch227 := ch227.trans p269; clear p269 hs262
       obtain ⟨hs274, p275, f273⟩ := St.publish (i := 0) (o := 0) (c := 2) (xs := [0, 1]) hs270 rfl (show Els (rInt .i64) _ _ [(Value.int .i64 0), (Value.int .i64 1)] [0, 1] from ⟨_, _, rfl, (mk_int (show InK .i64 0 from by decide)), ⟨_, _, rfl, (mk_int (show InK .i64 1 from by decide)), Els.nil⟩⟩) (le_lit rfl) (le_lit rfl) (le_lit rfl)
       replace f41 := f41.step p275; replace f44 := f44.step p275; replace f_y58 := f_y58.step p275; replace f_y71 := f_y71.step p275; replace f_y84 := f_y84.step p275; replace f_y107 := f_y107.step p275; replace f_y129 := f_y129.step p275; replace f_y142 := f_y142.step p275; replace f198 := f198.step p275; replace f201 := f201.step p275; replace f_y215 := f_y215.step p275; replace f235 := f235.step p275; replace f254 := f254.step p275; replace ch227 := ch227.trans p275; clear p275 hs270
       refine Rg_opg rfl rfl rfl (op_buildSlice (cs := [(Value.slice (some ⟨b267, 0, none⟩) [0, 1].length 2)]) (parts := [(0, .tmp 95)]) ty23 ty22 hs274 (by decide) rfl ?_)
       intro b276 w277 hx280 p278 hs279
       replace f41 := f41.step p278; replace f44 := f44.step p278; replace f_y58 := f_y58.step p278; replace f_y71 := f_y71.step p278; replace f_y84 := f_y84.step p278; replace f_y107 := f_y107.step p278; replace f_y129 := f_y129.step p278; replace f_y142 := f_y142.step p278; replace f198 := f198.step p278; replace f201 := f201.step p278; replace f_y215 := f_y215.step p278; replace f235 := f235.step p278; replace f254 := f254.step p278; replace f273 := f273.step p278; replace ch227 := ch227.trans p278; clear p278 hs274
       obtain ⟨hs283, p284, f282⟩ := St.publish (i := 0) (o := 0) (c := 1) (xs := [[0, 1]]) hs279 rfl (show Els (rSl (rInt .i64)) _ _ [(Value.slice (some ⟨b267, 0, none⟩) [0, 1].length 2)] [[0, 1]] from ⟨_, _, rfl, (mk_sl f273), Els.nil⟩) (le_lit rfl) (le_lit rfl) (le_lit rfl)
       replace f41 := f41.step p284; replace f44 := f44.step p284; replace f_y58 := f_y58.step p284; replace f_y71 := f_y71.step p284; replace f_y84 := f_y84.step p284; replace f_y107 := f_y107.step p284; replace f_y129 := f_y129.step p284; replace f_y142 := f_y142.step p284; replace f198 := f198.step p284; replace f201 := f201.step p284; replace f_y215 := f_y215.step p284; replace f235 := f235.step p284; replace f254 := f254.step p284; replace f273 := f273.step p284; replace ch227 := ch227.trans p284; clear p284 hs279
       replace hm := bd hm; obtain ⟨samelists_1, hv285, hm⟩ := hm
       refine Rg_opg rfl rfl rfl (op_call Try.call17 (c17_overflightref38_SameLists (a := cycles_1.1) (b := [[0, 1]]) hs283.ltw f_y84 f282 hv285) rfl ?_)
       rintro v286 w287 ⟨hx288, h289⟩
       have hs290 := hs283.call hx288
       have p291 := Step.ext (O := ks [(some b190, Obj.cells [(Value.int .i64 2), (Value.slice (some ⟨b158, 0, none⟩) [0, 1].length 2), (Value.slice (some ⟨b182, 0, none⟩) [[1, 2], [2, 1]].length 2)].toArray 25), (some b33, Obj.cells [(Value.int .i64 3), (Value.slice (some ⟨b1, 0, none⟩) [0, 1].length 2), (Value.slice (some ⟨b25, 0, none⟩) [[9, 2, (-1)], [4, 8, 30]].length 2)].toArray 25)] O) hx288
       clear hx288
       replace f41 := f41.step p291; replace f44 := f44.step p291; replace f_y58 := f_y58.step p291; replace f_y71 := f_y71.step p291; replace f_y84 := f_y84.step p291; replace f_y107 := f_y107.step p291; replace f_y129 := f_y129.step p291; replace f_y142 := f_y142.step p291; replace f198 := f198.step p291; replace f201 := f201.step p291; replace f_y215 := f_y215.step p291; replace f235 := f235.step p291; replace f254 := f254.step p291; replace f273 := f273.step p291; replace f282 := f282.step p291; replace ch227 := ch227.trans p291; clear p291 hs283
       obtain rfl := h289
       refine Rg_op rfl (op_pick_t (v := (Value.bool samelists_1)) rfl rfl ?_)
       refine Rg_op rfl (op_move (v := (Value.bool samelists_1)) rfl ?_)
       refine Rg_case (fun hg293 => ?_) (fun hg293 => ?_)
       ·
        replace hm := bif_t hm hg293
        refine Rg_opg rfl rfl rfl (op_move (v := (Value.int .i64 cycles_2.2)) rfl ?_)
        refine Rg_opg rfl rfl rfl (op_eql rfl rfl ?_)
        refine Rg_op rfl (op_pick_t (v := (Value.bool (decide (cycles_2.2 = 0)))) rfl rfl ?_)
        refine Rg_op rfl (op_move (v := (Value.bool (decide (cycles_2.2 = 0)))) rfl ?_)
        refine Rg_case (fun hg294 => ?_) (fun hg294 => ?_)
        ·
         replace hm := bif_t hm hg294
         refine Rg_opg rfl rfl rfl (op_move (v := (Value.slice a_y107 cycles_2.1.length c_y107)) rfl ?_)
         refine Rg_opg rfl rfl rfl (op_buildSlice (cs := [(Value.int .i64 1), (Value.int .i64 0)]) (parts := [(0, .const (.int .i64 1)), (1, .const (.int .i64 0))]) ty22 ty3 hs290 (by decide) rfl ?_)
         intro b295 w296 hx299 p297 hs298
         replace f41 := f41.step p297; replace f44 := f44.step p297; replace f_y58 := f_y58.step p297; replace f_y71 := f_y71.step p297; replace f_y84 := f_y84.step p297; replace f_y107 := f_y107.step p297; replace f_y129 := f_y129.step p297; replace f_y142 := f_y142.step p297; replace f198 := f198.step p297; replace f201 := f201.step p297; replace f_y215 := f_y215.step p297; replace f235 := f235.step p297; replace f254 := f254.step p297; replace f273 := f273.step p297; replace f282 := f282.step p297; replace ch227 := ch227.trans p297; clear p297 hs290
         obtain ⟨hs302, p303, f301⟩ := St.publish (i := 0) (o := 0) (c := 2) (xs := [1, 0]) hs298 rfl (show Els (rInt .i64) _ _ [(Value.int .i64 1), (Value.int .i64 0)] [1, 0] from ⟨_, _, rfl, (mk_int (show InK .i64 1 from by decide)), ⟨_, _, rfl, (mk_int (show InK .i64 0 from by decide)), Els.nil⟩⟩) (le_lit rfl) (le_lit rfl) (le_lit rfl)
         replace f41 := f41.step p303; replace f44 := f44.step p303; replace f_y58 := f_y58.step p303; replace f_y71 := f_y71.step p303; replace f_y84 := f_y84.step p303; replace f_y107 := f_y107.step p303; replace f_y129 := f_y129.step p303; replace f_y142 := f_y142.step p303; replace f198 := f198.step p303; replace f201 := f201.step p303; replace f_y215 := f_y215.step p303; replace f235 := f235.step p303; replace f254 := f254.step p303; replace f273 := f273.step p303; replace f282 := f282.step p303; replace ch227 := ch227.trans p303; clear p303 hs298
         refine Rg_opg rfl rfl rfl (op_buildSlice (cs := [(Value.slice (some ⟨b295, 0, none⟩) [1, 0].length 2)]) (parts := [(0, .tmp 105)]) ty23 ty22 hs302 (by decide) rfl ?_)
         intro b304 w305 hx308 p306 hs307
         replace f41 := f41.step p306; replace f44 := f44.step p306; replace f_y58 := f_y58.step p306; replace f_y71 := f_y71.step p306; replace f_y84 := f_y84.step p306; replace f_y107 := f_y107.step p306; replace f_y129 := f_y129.step p306; replace f_y142 := f_y142.step p306; replace f198 := f198.step p306; replace f201 := f201.step p306; replace f_y215 := f_y215.step p306; replace f235 := f235.step p306; replace f254 := f254.step p306; replace f273 := f273.step p306; replace f282 := f282.step p306; replace f301 := f301.step p306; replace ch227 := ch227.trans p306; clear p306 hs302
         obtain ⟨hs311, p312, f310⟩ := St.publish (i := 0) (o := 0) (c := 1) (xs := [[1, 0]]) hs307 rfl (show Els (rSl (rInt .i64)) _ _ [(Value.slice (some ⟨b295, 0, none⟩) [1, 0].length 2)] [[1, 0]] from ⟨_, _, rfl, (mk_sl f301), Els.nil⟩) (le_lit rfl) (le_lit rfl) (le_lit rfl)
         replace f41 := f41.step p312; replace f44 := f44.step p312; replace f_y58 := f_y58.step p312; replace f_y71 := f_y71.step p312; replace f_y84 := f_y84.step p312; replace f_y107 := f_y107.step p312; replace f_y129 := f_y129.step p312; replace f_y142 := f_y142.step p312; replace f198 := f198.step p312; replace f201 := f201.step p312; replace f_y215 := f_y215.step p312; replace f235 := f235.step p312; replace f254 := f254.step p312; replace f273 := f273.step p312; replace f282 := f282.step p312; replace f301 := f301.step p312; replace ch227 := ch227.trans p312; clear p312 hs307
         replace hm := bd hm; obtain ⟨samelists_2, hv313, hm⟩ := hm
         refine Rg_opg rfl rfl rfl (op_call Try.call17 (c17_overflightref38_SameLists (a := cycles_2.1) (b := [[1, 0]]) hs311.ltw f_y107 f310 hv313) rfl ?_)
         rintro v314 w315 ⟨hx316, h317⟩
         have hs318 := hs311.call hx316
         have p319 := Step.ext (O := ks [(some b190, Obj.cells [(Value.int .i64 2), (Value.slice (some ⟨b158, 0, none⟩) [0, 1].length 2), (Value.slice (some ⟨b182, 0, none⟩) [[1, 2], [2, 1]].length 2)].toArray 25), (some b33, Obj.cells [(Value.int .i64 3), (Value.slice (some ⟨b1, 0, none⟩) [0, 1].length 2), (Value.slice (some ⟨b25, 0, none⟩) [[9, 2, (-1)], [4, 8, 30]].length 2)].toArray 25)] O) hx316
         clear hx316
         replace f41 := f41.step p319; replace f44 := f44.step p319; replace f_y58 := f_y58.step p319; replace f_y71 := f_y71.step p319; replace f_y84 := f_y84.step p319; replace f_y107 := f_y107.step p319; replace f_y129 := f_y129.step p319; replace f_y142 := f_y142.step p319; replace f198 := f198.step p319; replace f201 := f201.step p319; replace f_y215 := f_y215.step p319; replace f235 := f235.step p319; replace f254 := f254.step p319; replace f273 := f273.step p319; replace f282 := f282.step p319; replace f301 := f301.step p319; replace f310 := f310.step p319; replace ch227 := ch227.trans p319; clear p319 hs311
         obtain rfl := h317
         refine Rg_op rfl (op_pick_t (v := (Value.bool samelists_2)) rfl rfl ?_)
         refine Rg_op rfl (op_move (v := (Value.bool samelists_2)) rfl ?_)
         refine Rg_case (fun hg321 => ?_) (fun hg321 => ?_)
         ·
          replace hm := bif_t hm hg321
          refine Rg_opg rfl rfl rfl (op_move (v := (Value.int .i64 cycles_3.2)) rfl ?_)
          refine Rg_opg rfl rfl rfl (op_eql rfl rfl ?_)
          refine Rg_op rfl (op_pick_t (v := (Value.bool (decide (cycles_3.2 = 0)))) rfl rfl ?_)
          refine Rg_op rfl (op_move (v := (Value.bool (decide (cycles_3.2 = 0)))) rfl ?_)
          refine Rg_case (fun hg322 => ?_) (fun hg322 => ?_)
          ·
           replace hm := bif_t hm hg322
           refine Rg_opg rfl rfl rfl (op_move (v := (Value.slice a_y129 cycles_3.1.length c_y129)) rfl ?_)
           refine Rg_opg rfl rfl rfl (op_len Try.underlying23 rfl ?_)
           have rl323 := inK_len f_y129
           refine Rg_opg rfl rfl rfl (op_eql rfl rfl ?_)
           refine Rg_op rfl (op_pick_t (v := (Value.bool (decide ((cycles_3.1.length : Int) = 0)))) rfl rfl ?_)
           refine Rg_op rfl (op_move (v := (Value.bool (decide ((cycles_3.1.length : Int) = 0)))) rfl ?_)
           refine Rg_case (fun hg324 => ?_) (fun hg324 => ?_)
           ·
            replace hm := bif_t hm hg324
            refine Rg_opg rfl rfl rfl (op_move (v := (Value.int .i64 best_2.2)) rfl ?_)
            refine Rg_opg rfl rfl rfl (op_eql rfl rfl ?_)
            refine Rg_op rfl (op_pick_t (v := (Value.bool (decide (best_2.2 = 0)))) rfl rfl ?_)
            refine Rg_op rfl (op_move (v := (Value.bool (decide (best_2.2 = 0)))) rfl ?_)
            refine Rg_case (fun hg325 => ?_) (fun hg325 => ?_)
            ·
             replace hm := bif_t hm hg325
             refine Rg_opg rfl rfl rfl (op_move (v := (Value.slice a_y142 best_2.1.length c_y142)) rfl ?_)
             refine Rg_opg rfl rfl rfl (op_len Try.underlying22 rfl ?_)
             have rl326 := inK_len f_y142
             refine Rg_opg rfl rfl rfl (op_eql rfl rfl ?_)
             refine Rg_op rfl (op_pick_t (v := (Value.bool (decide ((best_2.1.length : Int) = 0)))) rfl rfl ?_)
             refine Rg_op rfl (op_move (v := (Value.bool (decide ((best_2.1.length : Int) = 0)))) rfl ?_)
             refine Rg_case (fun hg327 => ?_) (fun hg327 => ?_)
             ·
              replace hm := bif_t hm hg327
              refine Rg_opg rfl rfl rfl (op_move (v := (Value.int .i64 best_3.2)) rfl ?_)
              refine Rg_opg rfl rfl rfl (op_eql rfl rfl ?_)
              refine Rg_op rfl (op_pick_t (v := (Value.bool (decide (best_3.2 = 370)))) rfl rfl ?_)
              refine Rg_op rfl (op_move (v := (Value.bool (decide (best_3.2 = 370)))) rfl ?_)
              refine Rg_case (fun hg328 => ?_) (fun hg328 => ?_)
              ·
               replace hm := bif_t hm hg328
               refine Rg_opg rfl rfl rfl (op_move (v := (Value.int .i64 best_4.2)) rfl ?_)
               refine Rg_opg rfl rfl rfl (op_eql rfl rfl ?_)
               refine Rg_op rfl (op_pick_t (v := (Value.bool (decide (best_4.2 = 0)))) rfl rfl ?_)
               refine Rg_op rfl (op_move (v := (Value.bool (decide (best_4.2 = 0)))) rfl ?_)
               refine Rg_case (fun hg329 => ?_) (fun hg329 => ?_)
               ·
                replace hm := bif_t hm hg329
                refine Rg_opg rfl rfl rfl (op_move (v := (Value.slice a_y215 best_4.1.length c_y215)) rfl ?_)
                refine Rg_opg rfl rfl rfl (op_buildSlice (cs := [(Value.int .i64 0), (Value.int .i64 1)]) (parts := [(0, .const (.int .i64 0)), (1, .const (.int .i64 1))]) ty22 ty3 hs318 (by decide) rfl ?_)
                intro b330 w331 hx334 p332 hs333
                replace f41 := f41.step p332; replace f44 := f44.step p332; replace f_y58 := f_y58.step p332; replace f_y71 := f_y71.step p332; replace f_y84 := f_y84.step p332; replace f_y107 := f_y107.step p332; replace f_y129 := f_y129.step p332; replace f_y142 := f_y142.step p332; replace f198 := f198.step p332; replace f201 := f201.step p332; replace f_y215 := f_y215.step p332; replace f235 := f235.step p332; replace f254 := f254.step p332; replace f273 := f273.step p332; replace f282 := f282.step p332; replace f301 := f301.step p332; replace f310 := f310.step p332; replace ch227 := ch227.trans p332; clear p332 hs318
                obtain ⟨hs337, p338, f336⟩ := St.publish (i := 0) (o := 0) (c := 2) (xs := [0, 1]) hs333 rfl (show Els (rInt .i64) _ _ [(Value.int .i64 0), (Value.int .i64 1)] [0, 1] from ⟨_, _, rfl, (mk_int (show InK .i64 0 from by decide)), ⟨_, _, rfl, (mk_int (show InK .i64 1 from by decide)), Els.nil⟩⟩) (le_lit rfl) (le_lit rfl) (le_lit rfl)
                replace f41 := f41.step p338; replace f44 := f44.step p338; replace f_y58 := f_y58.step p338; replace f_y71 := f_y71.step p338; replace f_y84 := f_y84.step p338; replace f_y107 := f_y107.step p338; replace f_y129 := f_y129.step p338; replace f_y142 := f_y142.step p338; replace f198 := f198.step p338; replace f201 := f201.step p338; replace f_y215 := f_y215.step p338; replace f235 := f235.step p338; replace f254 := f254.step p338; replace f273 := f273.step p338; replace f282 := f282.step p338; replace f301 := f301.step p338; replace f310 := f310.step p338; replace ch227 := ch227.trans p338; clear p338 hs333
                replace hm := bd hm; obtain ⟨sameints_3, hv339, hm⟩ := hm
                refine Rg_opg rfl rfl rfl (op_call Try.call16 (c16_overflightref37_SameInts (a := best_4.1) (b := [0, 1]) hs337.ltw f_y215 f336 hv339) rfl ?_)
                rintro v340 w341 ⟨hx342, h343⟩
                have hs344 := hs337.call hx342
                have p345 := Step.ext (O := ks [(some b190, Obj.cells [(Value.int .i64 2), (Value.slice (some ⟨b158, 0, none⟩) [0, 1].length 2), (Value.slice (some ⟨b182, 0, none⟩) [[1, 2], [2, 1]].length 2)].toArray 25), (some b33, Obj.cells [(Value.int .i64 3), (Value.slice (some ⟨b1, 0, none⟩) [0, 1].length 2), (Value.slice (some ⟨b25, 0, none⟩) [[9, 2, (-1)], [4, 8, 30]].length 2)].toArray 25)] O) hx342
                clear hx342
                replace f41 := f41.step p345; replace f44 := f44.step p345; replace f_y58 := f_y58.step p345; replace f_y71 := f_y71.step p345; replace f_y84 := f_y84.step p345; replace f_y107 := f_y107.step p345; replace f_y129 := f_y129.step p345; replace f_y142 := f_y142.step p345; replace f198 := f198.step p345; replace f201 := f201.step p345; replace f_y215 := f_y215.step p345; replace f235 := f235.step p345; replace f254 := f254.step p345; replace f273 := f273.step p345; replace f282 := f282.step p345; replace f301 := f301.step p345; replace f310 := f310.step p345; replace f336 := f336.step p345; replace ch227 := ch227.trans p345; clear p345 hs337
                obtain rfl := h343
                refine Rg_op rfl (op_pick_t (v := (Value.bool sameints_3)) rfl rfl ?_)
                refine Rg_op rfl (op_move (v := (Value.bool sameints_3)) rfl ?_)
                refine Rg_case (fun hg347 => ?_) (fun hg347 => ?_)
                ·
                 replace hm := bif_t hm hg347
                 refine Rg_opg rfl rfl rfl (op_loadA (cs := [(Value.int .i64 3), (Value.slice (some ⟨b1, 0, none⟩) [0, 1].length 2), (Value.slice (some ⟨b25, 0, none⟩) [[9, 2, (-1)], [4, 8, 30]].length 2)]) (vs := [(Value.int .i64 3), (Value.slice (some ⟨b1, 0, none⟩) [0, 1].length 2), (Value.slice (some ⟨b25, 0, none⟩) [[9, 2, (-1)], [4, 8, 30]].length 2)]) (i := 1) ty25 hs344 rfl rfl rfl rfl ?_)
                 refine Rg_opg rfl rfl rfl (op_move (v := (Value.slice a_y58 best_1.1.length c_y58)) rfl ?_)
                 replace hm := bd hm; obtain ⟨verify_1, hv348, hm⟩ := hm
                 refine Rg_opg rfl rfl rfl (op_call Try.call20 (c20_clearing_Verify (r_ := (⟨3, [0, 1], [[9, 2, (-1)], [4, 8, 30]]⟩ : XRound)) (slots := best_1.1) hs344.ltw (show InK .i64 3 from by decide) f41 f44 f_y58 hv348) rfl ?_)
                 rintro v349 w350 ⟨hx351, h352⟩
                 have hs353 := hs344.call hx351
                 have p354 := Step.ext (O := ks [(some b190, Obj.cells [(Value.int .i64 2), (Value.slice (some ⟨b158, 0, none⟩) [0, 1].length 2), (Value.slice (some ⟨b182, 0, none⟩) [[1, 2], [2, 1]].length 2)].toArray 25), (some b33, Obj.cells [(Value.int .i64 3), (Value.slice (some ⟨b1, 0, none⟩) [0, 1].length 2), (Value.slice (some ⟨b25, 0, none⟩) [[9, 2, (-1)], [4, 8, 30]].length 2)].toArray 25)] O) hx351
                 clear hx351
                 replace f41 := f41.step p354; replace f44 := f44.step p354; replace f_y58 := f_y58.step p354; replace f_y71 := f_y71.step p354; replace f_y84 := f_y84.step p354; replace f_y107 := f_y107.step p354; replace f_y129 := f_y129.step p354; replace f_y142 := f_y142.step p354; replace f198 := f198.step p354; replace f201 := f201.step p354; replace f_y215 := f_y215.step p354; replace f235 := f235.step p354; replace f254 := f254.step p354; replace f273 := f273.step p354; replace f282 := f282.step p354; replace f301 := f301.step p354; replace f310 := f310.step p354; replace f336 := f336.step p354; replace ch227 := ch227.trans p354; clear p354 hs344
                 obtain ⟨rfl, r_y355⟩ := h352
                 refine Rg_opg rfl rfl rfl (op_eql rfl rfl ?_)
                 refine Rg_op rfl (op_pick_t (v := (Value.bool (decide (verify_1 = 0)))) rfl rfl ?_)
                 refine Rg_op rfl (op_move (v := (Value.bool (decide (verify_1 = 0)))) rfl ?_)
                 refine Rg_case (fun hg356 => ?_) (fun hg356 => ?_)
                 ·
                  replace hm := bif_t hm hg356
                  refine Rg_opg rfl rfl rfl (op_loadA (cs := [(Value.int .i64 3), (Value.slice (some ⟨b1, 0, none⟩) [0, 1].length 2), (Value.slice (some ⟨b25, 0, none⟩) [[9, 2, (-1)], [4, 8, 30]].length 2)]) (vs := [(Value.int .i64 3), (Value.slice (some ⟨b1, 0, none⟩) [0, 1].length 2), (Value.slice (some ⟨b25, 0, none⟩) [[9, 2, (-1)], [4, 8, 30]].length 2)]) (i := 1) ty25 hs353 rfl rfl rfl rfl ?_)
                  refine Rg_opg rfl rfl rfl (op_buildSlice (cs := [(Value.int .i64 0), (Value.int .i64 1)]) (parts := [(0, .const (.int .i64 0)), (1, .const (.int .i64 1))]) ty22 ty3 hs353 (by decide) rfl ?_)
                  intro b357 w358 hx361 p359 hs360
                  replace f41 := f41.step p359; replace f44 := f44.step p359; replace f_y58 := f_y58.step p359; replace f_y71 := f_y71.step p359; replace f_y84 := f_y84.step p359; replace f_y107 := f_y107.step p359; replace f_y129 := f_y129.step p359; replace f_y142 := f_y142.step p359; replace f198 := f198.step p359; replace f201 := f201.step p359; replace f_y215 := f_y215.step p359; replace f235 := f235.step p359; replace f254 := f254.step p359; replace f273 := f273.step p359; replace f282 := f282.step p359; replace f301 := f301.step p359; replace f310 := f310.step p359; replace f336 := f336.step p359; replace ch227 := ch227.trans p359; clear p359 hs353
                  obtain ⟨hs364, p365, f363⟩ := St.publish (i := 0) (o := 0) (c := 2) (xs := [0, 1]) hs360 rfl (show Els (rInt .i64) _ _ [(Value.int .i64 0), (Value.int .i64 1)] [0, 1] from ⟨_, _, rfl, (mk_int (show InK .i64 0 from by decide)), ⟨_, _, rfl, (mk_int (show InK .i64 1 from by decide)), Els.nil⟩⟩) (le_lit rfl) (le_lit rfl) (le_lit rfl)
                  replace f41 := f41.step p365; replace f44 := f44.step p365; replace f_y58 := f_y58.step p365; replace f_y71 := f_y71.step p365; replace f_y84 := f_y84.step p365; replace f_y107 := f_y107.step p365; replace f_y129 := f_y129.step p365; replace f_y142 := f_y142.step p365; replace f198 := f198.step p365; replace f201 := f201.step p365; replace f_y215 := f_y215.step p365; replace f235 := f235.step p365; replace f254 := f254.step p365; replace f273 := f273.step p365; replace f282 := f282.step p365; replace f301 := f301.step p365; replace f310 := f310.step p365; replace f336 := f336.step p365; replace ch227 := ch227.trans p365; clear p365 hs360
                  replace hm := bd hm; obtain ⟨verify_2, hv366, hm⟩ := hm
                  refine Rg_opg rfl rfl rfl (op_call Try.call20 (c20_clearing_Verify (r_ := (⟨3, [0, 1], [[9, 2, (-1)], [4, 8, 30]]⟩ : XRound)) (slots := [0, 1]) hs364.ltw (show InK .i64 3 from by decide) f41 f44 f363 hv366) rfl ?_)
                  rintro v367 w368 ⟨hx369, h370⟩
                  have hs371 := hs364.call hx369
                  have p372 := Step.ext (O := ks [(some b190, Obj.cells [(Value.int .i64 2), (Value.slice (some ⟨b158, 0, none⟩) [0, 1].length 2), (Value.slice (some ⟨b182, 0, none⟩) [[1, 2], [2, 1]].length 2)].toArray 25), (some b33, Obj.cells [(Value.int .i64 3), (Value.slice (some ⟨b1, 0, none⟩) [0, 1].length 2), (Value.slice (some ⟨b25, 0, none⟩) [[9, 2, (-1)], [4, 8, 30]].length 2)].toArray 25)] O) hx369
                  clear hx369
                  replace f41 := f41.step p372; replace f44 := f44.step p372; replace f_y58 := f_y58.step p372; replace f_y71 := f_y71.step p372; replace f_y84 := f_y84.step p372; replace f_y107 := f_y107.step p372; replace f_y129 := f_y129.step p372; replace f_y142 := f_y142.step p372; replace f198 := f198.step p372; replace f201 := f201.step p372; replace f_y215 := f_y215.step p372; replace f235 := f235.step p372; replace f254 := f254.step p372; replace f273 := f273.step p372; replace f282 := f282.step p372; replace f301 := f301.step p372; replace f310 := f310.step p372; replace f336 := f336.step p372; replace f363 := f363.step p372; replace ch227 := ch227.trans p372; clear p372 hs364
                  obtain ⟨rfl, r_y373⟩ := h370
                  refine Rg_opg rfl rfl rfl (op_eql rfl rfl ?_)
                  refine Rg_op rfl (op_pick_t (v := (Value.bool (decide (verify_2 = 380)))) rfl rfl ?_)
                  refine Rg_op rfl (op_move (v := (Value.bool (decide (verify_2 = 380)))) rfl ?_)
                  refine Rg_case (fun hg374 => ?_) (fun hg374 => ?_)
                  ·
                   replace hm := bif_t hm hg374
                   refine Rg_opg rfl rfl rfl (op_loadA (cs := [(Value.int .i64 3), (Value.slice (some ⟨b1, 0, none⟩) [0, 1].length 2), (Value.slice (some ⟨b25, 0, none⟩) [[9, 2, (-1)], [4, 8, 30]].length 2)]) (vs := [(Value.int .i64 3), (Value.slice (some ⟨b1, 0, none⟩) [0, 1].length 2), (Value.slice (some ⟨b25, 0, none⟩) [[9, 2, (-1)], [4, 8, 30]].length 2)]) (i := 1) ty25 hs371 rfl rfl rfl rfl ?_)
                   refine Rg_opg rfl rfl rfl (op_buildSlice (cs := [(Value.int .i64 1), (Value.int .i64 2)]) (parts := [(0, .const (.int .i64 1)), (1, .const (.int .i64 2))]) ty22 ty3 hs371 (by decide) rfl ?_)
                   intro b375 w376 hx379 p377 hs378
                   replace f41 := f41.step p377; replace f44 := f44.step p377; replace f_y58 := f_y58.step p377; replace f_y71 := f_y71.step p377; replace f_y84 := f_y84.step p377; replace f_y107 := f_y107.step p377; replace f_y129 := f_y129.step p377; replace f_y142 := f_y142.step p377; replace f198 := f198.step p377; replace f201 := f201.step p377; replace f_y215 := f_y215.step p377; replace f235 := f235.step p377; replace f254 := f254.step p377; replace f273 := f273.step p377; replace f282 := f282.step p377; replace f301 := f301.step p377; replace f310 := f310.step p377; replace f336 := f336.step p377; replace f363 := f363.step p377; replace ch227 := ch227.trans p377; clear p377 hs371
                   obtain ⟨hs382, p383, f381⟩ := St.publish (i := 0) (o := 0) (c := 2) (xs := [1, 2]) hs378 rfl (show Els (rInt .i64) _ _ [(Value.int .i64 1), (Value.int .i64 2)] [1, 2] from ⟨_, _, rfl, (mk_int (show InK .i64 1 from by decide)), ⟨_, _, rfl, (mk_int (show InK .i64 2 from by decide)), Els.nil⟩⟩) (le_lit rfl) (le_lit rfl) (le_lit rfl)
                   replace f41 := f41.step p383; replace f44 := f44.step p383; replace f_y58 := f_y58.step p383; replace f_y71 := f_y71.step p383; replace f_y84 := f_y84.step p383; replace f_y107 := f_y107.step p383; replace f_y129 := f_y129.step p383; replace f_y142 := f_y142.step p383; replace f198 := f198.step p383; replace f201 := f201.step p383; replace f_y215 := f_y215.step p383; replace f235 := f235.step p383; replace f254 := f254.step p383; replace f273 := f273.step p383; replace f282 := f282.step p383; replace f301 := f301.step p383; replace f310 := f310.step p383; replace f336 := f336.step p383; replace f363 := f363.step p383; replace ch227 := ch227.trans p383; clear p383 hs378
                   replace hm := bd hm; obtain ⟨verify_3, hv384, hm⟩ := hm
                   refine Rg_opg rfl rfl rfl (op_call Try.call20 (c20_clearing_Verify (r_ := (⟨3, [0, 1], [[9, 2, (-1)], [4, 8, 30]]⟩ : XRound)) (slots := [1, 2]) hs382.ltw (show InK .i64 3 from by decide) f41 f44 f381 hv384) rfl ?_)
                   rintro v385 w386 ⟨hx387, h388⟩
                   have hs389 := hs382.call hx387
                   have p390 := Step.ext (O := ks [(some b190, Obj.cells [(Value.int .i64 2), (Value.slice (some ⟨b158, 0, none⟩) [0, 1].length 2), (Value.slice (some ⟨b182, 0, none⟩) [[1, 2], [2, 1]].length 2)].toArray 25), (some b33, Obj.cells [(Value.int .i64 3), (Value.slice (some ⟨b1, 0, none⟩) [0, 1].length 2), (Value.slice (some ⟨b25, 0, none⟩) [[9, 2, (-1)], [4, 8, 30]].length 2)].toArray 25)] O) hx387
                   clear hx387
                   replace f41 := f41.step p390; replace f44 := f44.step p390; replace f_y58 := f_y58.step p390; replace f_y71 := f_y71.step p390; replace f_y84 := f_y84.step p390; replace f_y107 := f_y107.step p390; replace f_y129 := f_y129.step p390; replace f_y142 := f_y142.step p390; replace f198 := f198.step p390; replace f201 := f201.step p390; replace f_y215 := f_y215.step p390; replace f235 := f235.step p390; replace f254 := f254.step p390; replace f273 := f273.step p390; replace f282 := f282.step p390; replace f301 := f301.step p390; replace f310 := f310.step p390; replace f336 := f336.step p390; replace f363 := f363.step p390; replace f381 := f381.step p390; replace ch227 := ch227.trans p390; clear p390 hs382
                   obtain ⟨rfl, r_y391⟩ := h388
                   refine Rg_opg rfl rfl rfl (op_eql rfl rfl ?_)
                   refine Rg_op rfl (op_pick_t (v := (Value.bool (decide (verify_3 = 380)))) rfl rfl ?_)
                   refine Rg_op rfl (op_assign (v := (Value.bool (decide (verify_3 = 380)))) rfl ?_)
                   refine Rg_nil ?_
                   exact hK221 _ _ ⟨(decide (verify_3 = 380)), _, rfl, ⟨(by repeat (first | with_reducible exact Out.refl _ _ | refine Out.upd ?_ rfl | refine Out.updL ?_ rfl | refine Out.mix' ?_ rfl | exact Out.refl _ _)), rfl, rfl, trivial⟩, ch227, hs389, hm⟩
                  ·
                   replace hm := bif_f hm hg374
                   iterate 4 refine Rg_opx rfl (asB_ne rfl rfl) rfl ?_
                   refine Rg_op rfl (op_pick_f (v := (Value.bool false)) rfl rfl ?_)
                   refine Rg_op rfl (op_assign (v := (Value.bool false)) rfl ?_)
                   refine Rg_nil ?_
                   exact hK221 _ _ ⟨false, _, rfl, ⟨(by repeat (first | with_reducible exact Out.refl _ _ | refine Out.upd ?_ rfl | refine Out.updL ?_ rfl | refine Out.mix' ?_ rfl | exact Out.refl _ _)), rfl, rfl, trivial⟩, ch227, hs371, hm⟩
                 ·
                  replace hm := bif_f hm hg356
                  iterate 4 refine Rg_opx rfl (asB_ne rfl rfl) rfl ?_
                  refine Rg_op rfl (op_pick_f (v := (Value.bool false)) rfl rfl ?_)
                  refine Rg_op rfl (op_move (v := (Value.bool false)) rfl ?_)
                  iterate 4 refine Rg_opx rfl (asB_ne rfl rfl) rfl ?_
                  refine Rg_op rfl (op_pick_f (v := (Value.bool false)) rfl rfl ?_)
                  refine Rg_op rfl (op_assign (v := (Value.bool false)) rfl ?_)
                  refine Rg_nil ?_
                  exact hK221 _ _ ⟨false, _, rfl, ⟨(by repeat (first | with_reducible exact Out.refl _ _ | refine Out.upd ?_ rfl | refine Out.updL ?_ rfl | refine Out.mix' ?_ rfl | exact Out.refl _ _)), rfl, rfl, trivial⟩, ch227, hs353, hm⟩
                ·
                 replace hm := bif_f hm hg347
                 iterate 4 refine Rg_opx rfl (asB_ne rfl rfl) rfl ?_
                 refine Rg_op rfl (op_pick_f (v := (Value.bool false)) rfl rfl ?_)
                 refine Rg_op rfl (op_move (v := (Value.bool false)) rfl ?_)
                 iterate 4 refine Rg_opx rfl (asB_ne rfl rfl) rfl ?_
                 refine Rg_op rfl (op_pick_f (v := (Value.bool false)) rfl rfl ?_)
                 refine Rg_op rfl (op_move (v := (Value.bool false)) rfl ?_)
                 iterate 4 refine Rg_opx rfl (asB_ne rfl rfl) rfl ?_
                 refine Rg_op rfl (op_pick_f (v := (Value.bool false)) rfl rfl ?_)
                 refine Rg_op rfl (op_assign (v := (Value.bool false)) rfl ?_)
                 refine Rg_nil ?_
                 exact hK221 _ _ ⟨false, _, rfl, ⟨(by repeat (first | with_reducible exact Out.refl _ _ | refine Out.upd ?_ rfl | refine Out.updL ?_ rfl | refine Out.mix' ?_ rfl | exact Out.refl _ _)), rfl, rfl, trivial⟩, ch227, hs344, hm⟩
               ·
                replace hm := bif_f hm hg329
                iterate 3 refine Rg_opx rfl (asB_ne rfl rfl) rfl ?_
                refine Rg_op rfl (op_pick_f (v := (Value.bool false)) rfl rfl ?_)
                refine Rg_op rfl (op_move (v := (Value.bool false)) rfl ?_)
                iterate 4 refine Rg_opx rfl (asB_ne rfl rfl) rfl ?_
                refine Rg_op rfl (op_pick_f (v := (Value.bool false)) rfl rfl ?_)
                refine Rg_op rfl (op_move (v := (Value.bool false)) rfl ?_)
                iterate 4 refine Rg_opx rfl (asB_ne rfl rfl) rfl ?_
                refine Rg_op rfl (op_pick_f (v := (Value.bool false)) rfl rfl ?_)
                refine Rg_op rfl (op_move (v := (Value.bool false)) rfl ?_)
                iterate 4 refine Rg_opx rfl (asB_ne rfl rfl) rfl ?_
                refine Rg_op rfl (op_pick_f (v := (Value.bool false)) rfl rfl ?_)
                refine Rg_op rfl (op_assign (v := (Value.bool false)) rfl ?_)
                refine Rg_nil ?_
                exact hK221 _ _ ⟨false, _, rfl, ⟨(by repeat (first | with_reducible exact Out.refl _ _ | refine Out.upd ?_ rfl | refine Out.updL ?_ rfl | refine Out.mix' ?_ rfl | exact Out.refl _ _)), rfl, rfl, trivial⟩, ch227, hs318, hm⟩
              ·
               replace hm := bif_f hm hg328
               iterate 2 refine Rg_opx rfl (asB_ne rfl rfl) rfl ?_
               refine Rg_op rfl (op_pick_f (v := (Value.bool false)) rfl rfl ?_)
               refine Rg_op rfl (op_move (v := (Value.bool false)) rfl ?_)
               iterate 3 refine Rg_opx rfl (asB_ne rfl rfl) rfl ?_
               refine Rg_op rfl (op_pick_f (v := (Value.bool false)) rfl rfl ?_)
               refine Rg_op rfl (op_move (v := (Value.bool false)) rfl ?_)
               iterate 4 refine Rg_opx rfl (asB_ne rfl rfl) rfl ?_
               refine Rg_op rfl (op_pick_f (v := (Value.bool false)) rfl rfl ?_)
               refine Rg_op rfl (op_move (v := (Value.bool false)) rfl ?_)
               iterate 4 refine Rg_opx rfl (asB_ne rfl rfl) rfl ?_
               refine Rg_op rfl (op_pick_f (v := (Value.bool false)) rfl rfl ?_)
               refine Rg_op rfl (op_move (v := (Value.bool false)) rfl ?_)
               iterate 4 refine Rg_opx rfl (asB_ne rfl rfl) rfl ?_
               refine Rg_op rfl (op_pick_f (v := (Value.bool false)) rfl rfl ?_)
               refine Rg_op rfl (op_assign (v := (Value.bool false)) rfl ?_)
               refine Rg_nil ?_
               exact hK221 _ _ ⟨false, _, rfl, ⟨(by repeat (first | with_reducible exact Out.refl _ _ | refine Out.upd ?_ rfl | refine Out.updL ?_ rfl | refine Out.mix' ?_ rfl | exact Out.refl _ _)), rfl, rfl, trivial⟩, ch227, hs318, hm⟩
             ·
              replace hm := bif_f hm hg327
              iterate 2 refine Rg_opx rfl (asB_ne rfl rfl) rfl ?_
              refine Rg_op rfl (op_pick_f (v := (Value.bool false)) rfl rfl ?_)
              refine Rg_op rfl (op_move (v := (Value.bool false)) rfl ?_)
              iterate 2 refine Rg_opx rfl (asB_ne rfl rfl) rfl ?_
              refine Rg_op rfl (op_pick_f (v := (Value.bool false)) rfl rfl ?_)
              refine Rg_op rfl (op_move (v := (Value.bool false)) rfl ?_)
              iterate 3 refine Rg_opx rfl (asB_ne rfl rfl) rfl ?_
              refine Rg_op rfl (op_pick_f (v := (Value.bool false)) rfl rfl ?_)
              refine Rg_op rfl (op_move (v := (Value.bool false)) rfl ?_)
              iterate 4 refine Rg_opx rfl (asB_ne rfl rfl) rfl ?_
              refine Rg_op rfl (op_pick_f (v := (Value.bool false)) rfl rfl ?_)
              refine Rg_op rfl (op_move (v := (Value.bool false)) rfl ?_)
              iterate 4 refine Rg_opx rfl (asB_ne rfl rfl) rfl ?_
              refine Rg_op rfl (op_pick_f (v := (Value.bool false)) rfl rfl ?_)
              refine Rg_op rfl (op_move (v := (Value.bool false)) rfl ?_)
              iterate 4 refine Rg_opx rfl (asB_ne rfl rfl) rfl ?_
              refine Rg_op rfl (op_pick_f (v := (Value.bool false)) rfl rfl ?_)
              refine Rg_op rfl (op_assign (v := (Value.bool false)) rfl ?_)
              refine Rg_nil ?_
              exact hK221 _ _ ⟨false, _, rfl, ⟨(by repeat (first | with_reducible exact Out.refl _ _ | refine Out.upd ?_ rfl | refine Out.updL ?_ rfl | refine Out.mix' ?_ rfl | exact Out.refl _ _)), rfl, rfl, trivial⟩, ch227, hs318, hm⟩
            ·
             replace hm := bif_f hm hg325
             iterate 3 refine Rg_opx rfl (asB_ne rfl rfl) rfl ?_
             refine Rg_op rfl (op_pick_f (v := (Value.bool false)) rfl rfl ?_)
             refine Rg_op rfl (op_move (v := (Value.bool false)) rfl ?_)
             iterate 2 refine Rg_opx rfl (asB_ne rfl rfl) rfl ?_
             refine Rg_op rfl (op_pick_f (v := (Value.bool false)) rfl rfl ?_)
             refine Rg_op rfl (op_move (v := (Value.bool false)) rfl ?_)
             iterate 2 refine Rg_opx rfl (asB_ne rfl rfl) rfl ?_
             refine Rg_op rfl (op_pick_f (v := (Value.bool false)) rfl rfl ?_)
             refine Rg_op rfl (op_move (v := (Value.bool false)) rfl ?_)
             iterate 3 refine Rg_opx rfl (asB_ne rfl rfl) rfl ?_
             refine Rg_op rfl (op_pick_f (v := (Value.bool false)) rfl rfl ?_)
             refine Rg_op rfl (op_move (v := (Value.bool false)) rfl ?_)
             iterate 4 refine Rg_opx rfl (asB_ne rfl rfl) rfl ?_
             refine Rg_op rfl (op_pick_f (v := (Value.bool false)) rfl rfl ?_)
             refine Rg_op rfl (op_move (v := (Value.bool false)) rfl ?_)
             iterate 4 refine Rg_opx rfl (asB_ne rfl rfl) rfl ?_
             refine Rg_op rfl (op_pick_f (v := (Value.bool false)) rfl rfl ?_)
             refine Rg_op rfl (op_move (v := (Value.bool false)) rfl ?_)
             iterate 4 refine Rg_opx rfl (asB_ne rfl rfl) rfl ?_
             refine Rg_op rfl (op_pick_f (v := (Value.bool false)) rfl rfl ?_)
             refine Rg_op rfl (op_assign (v := (Value.bool false)) rfl ?_)
             refine Rg_nil ?_
             exact hK221 _ _ ⟨false, _, rfl, ⟨(by repeat (first | with_reducible exact Out.refl _ _ | refine Out.upd ?_ rfl | refine Out.updL ?_ rfl | refine Out.mix' ?_ rfl | exact Out.refl _ _)), rfl, rfl, trivial⟩, ch227, hs318, hm⟩
           ·
            replace hm := bif_f hm hg324
            iterate 2 refine Rg_opx rfl (asB_ne rfl rfl) rfl ?_
            refine Rg_op rfl (op_pick_f (v := (Value.bool false)) rfl rfl ?_)
            refine Rg_op rfl (op_move (v := (Value.bool false)) rfl ?_)
            iterate 3 refine Rg_opx rfl (asB_ne rfl rfl) rfl ?_
            refine Rg_op rfl (op_pick_f (v := (Value.bool false)) rfl rfl ?_)
            refine Rg_op rfl (op_move (v := (Value.bool false)) rfl ?_)
            iterate 2 refine Rg_opx rfl (asB_ne rfl rfl) rfl ?_
            refine Rg_op rfl (op_pick_f (v := (Value.bool false)) rfl rfl ?_)
            refine Rg_op rfl (op_move (v := (Value.bool false)) rfl ?_)
            iterate 2 refine Rg_opx rfl (asB_ne rfl rfl) rfl ?_
            refine Rg_op rfl (op_pick_f (v := (Value.bool false)) rfl rfl ?_)
            refine Rg_op rfl (op_move (v := (Value.bool false)) rfl ?_)
            iterate 3 refine Rg_opx rfl (asB_ne rfl rfl) rfl ?_
            refine Rg_op rfl (op_pick_f (v := (Value.bool false)) rfl rfl ?_)
            refine Rg_op rfl (op_move (v := (Value.bool false)) rfl ?_)
            iterate 4 refine Rg_opx rfl (asB_ne rfl rfl) rfl ?_
            refine Rg_op rfl (op_pick_f (v := (Value.bool false)) rfl rfl ?_)
            refine Rg_op rfl (op_move (v := (Value.bool false)) rfl ?_)
            iterate 4 refine Rg_opx rfl (asB_ne rfl rfl) rfl ?_
            refine Rg_op rfl (op_pick_f (v := (Value.bool false)) rfl rfl ?_)
            refine Rg_op rfl (op_move (v := (Value.bool false)) rfl ?_)
            iterate 4 refine Rg_opx rfl (asB_ne rfl rfl) rfl ?_
            refine Rg_op rfl (op_pick_f (v := (Value.bool false)) rfl rfl ?_)
            refine Rg_op rfl (op_assign (v := (Value.bool false)) rfl ?_)
            refine Rg_nil ?_
            exact hK221 _ _ ⟨false, _, rfl, ⟨(by repeat (first | with_reducible exact Out.refl _ _ | refine Out.upd ?_ rfl | refine Out.updL ?_ rfl | refine Out.mix' ?_ rfl | exact Out.refl _ _)), rfl, rfl, trivial⟩, ch227, hs318, hm⟩
          ·
           replace hm := bif_f hm hg322
           iterate 3 refine Rg_opx rfl (asB_ne rfl rfl) rfl ?_
           refine Rg_op rfl (op_pick_f (v := (Value.bool false)) rfl rfl ?_)
           refine Rg_op rfl (op_move (v := (Value.bool false)) rfl ?_)
           iterate 2 refine Rg_opx rfl (asB_ne rfl rfl) rfl ?_
           refine Rg_op rfl (op_pick_f (v := (Value.bool false)) rfl rfl ?_)
           refine Rg_op rfl (op_move (v := (Value.bool false)) rfl ?_)
           iterate 3 refine Rg_opx rfl (asB_ne rfl rfl) rfl ?_
           refine Rg_op rfl (op_pick_f (v := (Value.bool false)) rfl rfl ?_)
           refine Rg_op rfl (op_move (v := (Value.bool false)) rfl ?_)
           iterate 2 refine Rg_opx rfl (asB_ne rfl rfl) rfl ?_
           refine Rg_op rfl (op_pick_f (v := (Value.bool false)) rfl rfl ?_)
           refine Rg_op rfl (op_move (v := (Value.bool false)) rfl ?_)
           iterate 2 refine Rg_opx rfl (asB_ne rfl rfl) rfl ?_
           refine Rg_op rfl (op_pick_f (v := (Value.bool false)) rfl rfl ?_)
           refine Rg_op rfl (op_move (v := (Value.bool false)) rfl ?_)
           iterate 3 refine Rg_opx rfl (asB_ne rfl rfl) rfl ?_
           refine Rg_op rfl (op_pick_f (v := (Value.bool false)) rfl rfl ?_)
           refine Rg_op rfl (op_move (v := (Value.bool false)) rfl ?_)
           iterate 4 refine Rg_opx rfl (asB_ne rfl rfl) rfl ?_
           refine Rg_op rfl (op_pick_f (v := (Value.bool false)) rfl rfl ?_)
           refine Rg_op rfl (op_move (v := (Value.bool false)) rfl ?_)
           iterate 4 refine Rg_opx rfl (asB_ne rfl rfl) rfl ?_
           refine Rg_op rfl (op_pick_f (v := (Value.bool false)) rfl rfl ?_)
           refine Rg_op rfl (op_move (v := (Value.bool false)) rfl ?_)
           iterate 4 refine Rg_opx rfl (asB_ne rfl rfl) rfl ?_
           refine Rg_op rfl (op_pick_f (v := (Value.bool false)) rfl rfl ?_)
           refine Rg_op rfl (op_assign (v := (Value.bool false)) rfl ?_)
           refine Rg_nil ?_
           exact hK221 _ _ ⟨false, _, rfl, ⟨(by repeat (first | with_reducible exact Out.refl _ _ | refine Out.upd ?_ rfl | refine Out.updL ?_ rfl | refine Out.mix' ?_ rfl | exact Out.refl _ _)), rfl, rfl, trivial⟩, ch227, hs318, hm⟩
         ·
          replace hm := bif_f hm hg321
          iterate 2 refine Rg_opx rfl (asB_ne rfl rfl) rfl ?_
          refine Rg_op rfl (op_pick_f (v := (Value.bool false)) rfl rfl ?_)
          refine Rg_op rfl (op_move (v := (Value.bool false)) rfl ?_)
          iterate 3 refine Rg_opx rfl (asB_ne rfl rfl) rfl ?_
          refine Rg_op rfl (op_pick_f (v := (Value.bool false)) rfl rfl ?_)
          refine Rg_op rfl (op_move (v := (Value.bool false)) rfl ?_)
          iterate 2 refine Rg_opx rfl (asB_ne rfl rfl) rfl ?_
          refine Rg_op rfl (op_pick_f (v := (Value.bool false)) rfl rfl ?_)
          refine Rg_op rfl (op_move (v := (Value.bool false)) rfl ?_)
          iterate 3 refine Rg_opx rfl (asB_ne rfl rfl) rfl ?_
          refine Rg_op rfl (op_pick_f (v := (Value.bool false)) rfl rfl ?_)
          refine Rg_op rfl (op_move (v := (Value.bool false)) rfl ?_)
          iterate 2 refine Rg_opx rfl (asB_ne rfl rfl) rfl ?_
          refine Rg_op rfl (op_pick_f (v := (Value.bool false)) rfl rfl ?_)
          refine Rg_op rfl (op_move (v := (Value.bool false)) rfl ?_)
          iterate 2 refine Rg_opx rfl (asB_ne rfl rfl) rfl ?_
          refine Rg_op rfl (op_pick_f (v := (Value.bool false)) rfl rfl ?_)
          refine Rg_op rfl (op_move (v := (Value.bool false)) rfl ?_)
          iterate 3 refine Rg_opx rfl (asB_ne rfl rfl) rfl ?_
          refine Rg_op rfl (op_pick_f (v := (Value.bool false)) rfl rfl ?_)
          refine Rg_op rfl (op_move (v := (Value.bool false)) rfl ?_)
          iterate 4 refine Rg_opx rfl (asB_ne rfl rfl) rfl ?_
          refine Rg_op rfl (op_pick_f (v := (Value.bool false)) rfl rfl ?_)
          refine Rg_op rfl (op_move (v := (Value.bool false)) rfl ?_)
          iterate 4 refine Rg_opx rfl (asB_ne rfl rfl) rfl ?_
          refine Rg_op rfl (op_pick_f (v := (Value.bool false)) rfl rfl ?_)
          refine Rg_op rfl (op_move (v := (Value.bool false)) rfl ?_)
          iterate 4 refine Rg_opx rfl (asB_ne rfl rfl) rfl ?_
          refine Rg_op rfl (op_pick_f (v := (Value.bool false)) rfl rfl ?_)
          refine Rg_op rfl (op_assign (v := (Value.bool false)) rfl ?_)
          refine Rg_nil ?_
          exact hK221 _ _ ⟨false, _, rfl, ⟨(by repeat (first | with_reducible exact Out.refl _ _ | refine Out.upd ?_ rfl | refine Out.updL ?_ rfl | refine Out.mix' ?_ rfl | exact Out.refl _ _)), rfl, rfl, trivial⟩, ch227, hs318, hm⟩
        ·
         replace hm := bif_f hm hg294
         iterate 4 refine Rg_opx rfl (asB_ne rfl rfl) rfl ?_
         refine Rg_op rfl (op_pick_f (v := (Value.bool false)) rfl rfl ?_)
         refine Rg_op rfl (op_move (v := (Value.bool false)) rfl ?_)
         iterate 2 refine Rg_opx rfl (asB_ne rfl rfl) rfl ?_
         refine Rg_op rfl (op_pick_f (v := (Value.bool false)) rfl rfl ?_)
         refine Rg_op rfl (op_move (v := (Value.bool false)) rfl ?_)
         iterate 3 refine Rg_opx rfl (asB_ne rfl rfl) rfl ?_
         refine Rg_op rfl (op_pick_f (v := (Value.bool false)) rfl rfl ?_)
         refine Rg_op rfl (op_move (v := (Value.bool false)) rfl ?_)
         iterate 2 refine Rg_opx rfl (asB_ne rfl rfl) rfl ?_
         refine Rg_op rfl (op_pick_f (v := (Value.bool false)) rfl rfl ?_)
         refine Rg_op rfl (op_move (v := (Value.bool false)) rfl ?_)
         iterate 3 refine Rg_opx rfl (asB_ne rfl rfl) rfl ?_
         refine Rg_op rfl (op_pick_f (v := (Value.bool false)) rfl rfl ?_)
         refine Rg_op rfl (op_move (v := (Value.bool false)) rfl ?_)
         iterate 2 refine Rg_opx rfl (asB_ne rfl rfl) rfl ?_
         refine Rg_op rfl (op_pick_f (v := (Value.bool false)) rfl rfl ?_)
         refine Rg_op rfl (op_move (v := (Value.bool false)) rfl ?_)
         iterate 2 refine Rg_opx rfl (asB_ne rfl rfl) rfl ?_
         refine Rg_op rfl (op_pick_f (v := (Value.bool false)) rfl rfl ?_)
         refine Rg_op rfl (op_move (v := (Value.bool false)) rfl ?_)
         iterate 3 refine Rg_opx rfl (asB_ne rfl rfl) rfl ?_
         refine Rg_op rfl (op_pick_f (v := (Value.bool false)) rfl rfl ?_)
         refine Rg_op rfl (op_move (v := (Value.bool false)) rfl ?_)
         iterate 4 refine Rg_opx rfl (asB_ne rfl rfl) rfl ?_
         refine Rg_op rfl (op_pick_f (v := (Value.bool false)) rfl rfl ?_)
         refine Rg_op rfl (op_move (v := (Value.bool false)) rfl ?_)
         iterate 4 refine Rg_opx rfl (asB_ne rfl rfl) rfl ?_
         refine Rg_op rfl (op_pick_f (v := (Value.bool false)) rfl rfl ?_)
         refine Rg_op rfl (op_move (v := (Value.bool false)) rfl ?_)
         iterate 4 refine Rg_opx rfl (asB_ne rfl rfl) rfl ?_
         refine Rg_op rfl (op_pick_f (v := (Value.bool false)) rfl rfl ?_)
         refine Rg_op rfl (op_assign (v := (Value.bool false)) rfl ?_)
         refine Rg_nil ?_
         exact hK221 _ _ ⟨false, _, rfl, ⟨(by repeat (first | with_reducible exact Out.refl _ _ | refine Out.upd ?_ rfl | refine Out.updL ?_ rfl | refine Out.mix' ?_ rfl | exact Out.refl _ _)), rfl, rfl, trivial⟩, ch227, hs290, hm⟩
       ·
        replace hm := bif_f hm hg293
        iterate 2 refine Rg_opx rfl (asB_ne rfl rfl) rfl ?_
        refine Rg_op rfl (op_pick_f (v := (Value.bool false)) rfl rfl ?_)
        refine Rg_op rfl (op_move (v := (Value.bool false)) rfl ?_)
        iterate 4 refine Rg_opx rfl (asB_ne rfl rfl) rfl ?_
        refine Rg_op rfl (op_pick_f (v := (Value.bool false)) rfl rfl ?_)
        refine Rg_op rfl (op_move (v := (Value.bool false)) rfl ?_)
        iterate 2 refine Rg_opx rfl (asB_ne rfl rfl) rfl ?_
        refine Rg_op rfl (op_pick_f (v := (Value.bool false)) rfl rfl ?_)
        refine Rg_op rfl (op_move (v := (Value.bool false)) rfl ?_)
        iterate 3 refine Rg_opx rfl (asB_ne rfl rfl) rfl ?_
        refine Rg_op rfl (op_pick_f (v := (Value.bool false)) rfl rfl ?_)
        refine Rg_op rfl (op_move (v := (Value.bool false)) rfl ?_)
        iterate 2 refine Rg_opx rfl (asB_ne rfl rfl) rfl ?_
        refine Rg_op rfl (op_pick_f (v := (Value.bool false)) rfl rfl ?_)
        refine Rg_op rfl (op_move (v := (Value.bool false)) rfl ?_)
        iterate 3 refine Rg_opx rfl (asB_ne rfl rfl) rfl ?_
        refine Rg_op rfl (op_pick_f (v := (Value.bool false)) rfl rfl ?_)
        refine Rg_op rfl (op_move (v := (Value.bool false)) rfl ?_)
        iterate 2 refine Rg_opx rfl (asB_ne rfl rfl) rfl ?_
        refine Rg_op rfl (op_pick_f (v := (Value.bool false)) rfl rfl ?_)
        refine Rg_op rfl (op_move (v := (Value.bool false)) rfl ?_)
        iterate 2 refine Rg_opx rfl (asB_ne rfl rfl) rfl ?_
        refine Rg_op rfl (op_pick_f (v := (Value.bool false)) rfl rfl ?_)
        refine Rg_op rfl (op_move (v := (Value.bool false)) rfl ?_)
        iterate 3 refine Rg_opx rfl (asB_ne rfl rfl) rfl ?_
        refine Rg_op rfl (op_pick_f (v := (Value.bool false)) rfl rfl ?_)
        refine Rg_op rfl (op_move (v := (Value.bool false)) rfl ?_)
        iterate 4 refine Rg_opx rfl (asB_ne rfl rfl) rfl ?_
        refine Rg_op rfl (op_pick_f (v := (Value.bool false)) rfl rfl ?_)
        refine Rg_op rfl (op_move (v := (Value.bool false)) rfl ?_)
        iterate 4 refine Rg_opx rfl (asB_ne rfl rfl) rfl ?_
        refine Rg_op rfl (op_pick_f (v := (Value.bool false)) rfl rfl ?_)
        refine Rg_op rfl (op_move (v := (Value.bool false)) rfl ?_)
        iterate 4 refine Rg_opx rfl (asB_ne rfl rfl) rfl ?_
        refine Rg_op rfl (op_pick_f (v := (Value.bool false)) rfl rfl ?_)
        refine Rg_op rfl (op_assign (v := (Value.bool false)) rfl ?_)
        refine Rg_nil ?_
        exact hK221 _ _ ⟨false, _, rfl, ⟨(by repeat (first | with_reducible exact Out.refl _ _ | refine Out.upd ?_ rfl | refine Out.updL ?_ rfl | refine Out.mix' ?_ rfl | exact Out.refl _ _)), rfl, rfl, trivial⟩, ch227, hs290, hm⟩
      ·
       replace hm := bif_f hm hg266
       iterate 4 refine Rg_opx rfl (asB_ne rfl rfl) rfl ?_
       refine Rg_op rfl (op_pick_f (v := (Value.bool false)) rfl rfl ?_)
       refine Rg_op rfl (op_move (v := (Value.bool false)) rfl ?_)
       iterate 2 refine Rg_opx rfl (asB_ne rfl rfl) rfl ?_
       refine Rg_op rfl (op_pick_f (v := (Value.bool false)) rfl rfl ?_)
       refine Rg_op rfl (op_move (v := (Value.bool false)) rfl ?_)
       iterate 4 refine Rg_opx rfl (asB_ne rfl rfl) rfl ?_
       refine Rg_op rfl (op_pick_f (v := (Value.bool false)) rfl rfl ?_)
       refine Rg_op rfl (op_move (v := (Value.bool false)) rfl ?_)
       iterate 2 refine Rg_opx rfl (asB_ne rfl rfl) rfl ?_
       refine Rg_op rfl (op_pick_f (v := (Value.bool false)) rfl rfl ?_)
       refine Rg_op rfl (op_move (v := (Value.bool false)) rfl ?_)
       iterate 3 refine Rg_opx rfl (asB_ne rfl rfl) rfl ?_
       refine Rg_op rfl (op_pick_f (v := (Value.bool false)) rfl rfl ?_)
       refine Rg_op rfl (op_move (v := (Value.bool false)) rfl ?_)
       iterate 2 refine Rg_opx rfl (asB_ne rfl rfl) rfl ?_
       refine Rg_op rfl (op_pick_f (v := (Value.bool false)) rfl rfl ?_)
       refine Rg_op rfl (op_move (v := (Value.bool false)) rfl ?_)
       iterate 3 refine Rg_opx rfl (asB_ne rfl rfl) rfl ?_
       refine Rg_op rfl (op_pick_f (v := (Value.bool false)) rfl rfl ?_)
       refine Rg_op rfl (op_move (v := (Value.bool false)) rfl ?_)
       iterate 2 refine Rg_opx rfl (asB_ne rfl rfl) rfl ?_
       refine Rg_op rfl (op_pick_f (v := (Value.bool false)) rfl rfl ?_)
       refine Rg_op rfl (op_move (v := (Value.bool false)) rfl ?_)
       iterate 2 refine Rg_opx rfl (asB_ne rfl rfl) rfl ?_
       refine Rg_op rfl (op_pick_f (v := (Value.bool false)) rfl rfl ?_)
       refine Rg_op rfl (op_move (v := (Value.bool false)) rfl ?_)
       iterate 3 refine Rg_opx rfl (asB_ne rfl rfl) rfl ?_
       refine Rg_op rfl (op_pick_f (v := (Value.bool false)) rfl rfl ?_)
       refine Rg_op rfl (op_move (v := (Value.bool false)) rfl ?_)
       iterate 4 refine Rg_opx rfl (asB_ne rfl rfl) rfl ?_
       refine Rg_op rfl (op_pick_f (v := (Value.bool false)) rfl rfl ?_)
       refine Rg_op rfl (op_move (v := (Value.bool false)) rfl ?_)
       iterate 4 refine Rg_opx rfl (asB_ne rfl rfl) rfl ?_
       refine Rg_op rfl (op_pick_f (v := (Value.bool false)) rfl rfl ?_)
       refine Rg_op rfl (op_move (v := (Value.bool false)) rfl ?_)
       iterate 4 refine Rg_opx rfl (asB_ne rfl rfl) rfl ?_
       refine Rg_op rfl (op_pick_f (v := (Value.bool false)) rfl rfl ?_)
       refine Rg_op rfl (op_assign (v := (Value.bool false)) rfl ?_)
       refine Rg_nil ?_
       exact hK221 _ _ ⟨false, _, rfl, ⟨(by repeat (first | with_reducible exact Out.refl _ _ | refine Out.upd ?_ rfl | refine Out.updL ?_ rfl | refine Out.mix' ?_ rfl | exact Out.refl _ _)), rfl, rfl, trivial⟩, ch227, hs262, hm⟩
     ·
      replace hm := bif_f hm hg265
      iterate 2 refine Rg_opx rfl (asB_ne rfl rfl) rfl ?_
      refine Rg_op rfl (op_pick_f (v := (Value.bool false)) rfl rfl ?_)
      refine Rg_op rfl (op_move (v := (Value.bool false)) rfl ?_)
      iterate 4 refine Rg_opx rfl (asB_ne rfl rfl) rfl ?_
      refine Rg_op rfl (op_pick_f (v := (Value.bool false)) rfl rfl ?_)
      refine Rg_op rfl (op_move (v := (Value.bool false)) rfl ?_)
      iterate 2 refine Rg_opx rfl (asB_ne rfl rfl) rfl ?_
      refine Rg_op rfl (op_pick_f (v := (Value.bool false)) rfl rfl ?_)
      refine Rg_op rfl (op_move (v := (Value.bool false)) rfl ?_)
      iterate 4 refine Rg_opx rfl (asB_ne rfl rfl) rfl ?_
      refine Rg_op rfl (op_pick_f (v := (Value.bool false)) rfl rfl ?_)
      refine Rg_op rfl (op_move (v := (Value.bool false)) rfl ?_)
      iterate 2 refine Rg_opx rfl (asB_ne rfl rfl) rfl ?_
      refine Rg_op rfl (op_pick_f (v := (Value.bool false)) rfl rfl ?_)
      refine Rg_op rfl (op_move (v := (Value.bool false)) rfl ?_)
      iterate 3 refine Rg_opx rfl (asB_ne rfl rfl) rfl ?_
      refine Rg_op rfl (op_pick_f (v := (Value.bool false)) rfl rfl ?_)
      refine Rg_op rfl (op_move (v := (Value.bool false)) rfl ?_)
      iterate 2 refine Rg_opx rfl (asB_ne rfl rfl) rfl ?_
      refine Rg_op rfl (op_pick_f (v := (Value.bool false)) rfl rfl ?_)
      refine Rg_op rfl (op_move (v := (Value.bool false)) rfl ?_)
      iterate 3 refine Rg_opx rfl (asB_ne rfl rfl) rfl ?_
      refine Rg_op rfl (op_pick_f (v := (Value.bool false)) rfl rfl ?_)
      refine Rg_op rfl (op_move (v := (Value.bool false)) rfl ?_)
      iterate 2 refine Rg_opx rfl (asB_ne rfl rfl) rfl ?_
      refine Rg_op rfl (op_pick_f (v := (Value.bool false)) rfl rfl ?_)
      refine Rg_op rfl (op_move (v := (Value.bool false)) rfl ?_)
      iterate 2 refine Rg_opx rfl (asB_ne rfl rfl) rfl ?_
      refine Rg_op rfl (op_pick_f (v := (Value.bool false)) rfl rfl ?_)
      refine Rg_op rfl (op_move (v := (Value.bool false)) rfl ?_)
      iterate 3 refine Rg_opx rfl (asB_ne rfl rfl) rfl ?_
      refine Rg_op rfl (op_pick_f (v := (Value.bool false)) rfl rfl ?_)
      refine Rg_op rfl (op_move (v := (Value.bool false)) rfl ?_)
      iterate 4 refine Rg_opx rfl (asB_ne rfl rfl) rfl ?_
      refine Rg_op rfl (op_pick_f (v := (Value.bool false)) rfl rfl ?_)
      refine Rg_op rfl (op_move (v := (Value.bool false)) rfl ?_)
      iterate 4 refine Rg_opx rfl (asB_ne rfl rfl) rfl ?_
      refine Rg_op rfl (op_pick_f (v := (Value.bool false)) rfl rfl ?_)
      refine Rg_op rfl (op_move (v := (Value.bool false)) rfl ?_)
      iterate 4 refine Rg_opx rfl (asB_ne rfl rfl) rfl ?_
      refine Rg_op rfl (op_pick_f (v := (Value.bool false)) rfl rfl ?_)
      refine Rg_op rfl (op_assign (v := (Value.bool false)) rfl ?_)
      refine Rg_nil ?_
      exact hK221 _ _ ⟨false, _, rfl, ⟨(by repeat (first | with_reducible exact Out.refl _ _ | refine Out.upd ?_ rfl | refine Out.updL ?_ rfl | refine Out.mix' ?_ rfl | exact Out.refl _ _)), rfl, rfl, trivial⟩, ch227, hs262, hm⟩
    ·
     replace hm := bif_f hm hg247
     iterate 3 refine Rg_opx rfl (asB_ne rfl rfl) rfl ?_
     refine Rg_op rfl (op_pick_f (v := (Value.bool false)) rfl rfl ?_)
     refine Rg_op rfl (op_move (v := (Value.bool false)) rfl ?_)
     iterate 2 refine Rg_opx rfl (asB_ne rfl rfl) rfl ?_
     refine Rg_op rfl (op_pick_f (v := (Value.bool false)) rfl rfl ?_)
     refine Rg_op rfl (op_move (v := (Value.bool false)) rfl ?_)
     iterate 4 refine Rg_opx rfl (asB_ne rfl rfl) rfl ?_
     refine Rg_op rfl (op_pick_f (v := (Value.bool false)) rfl rfl ?_)
     refine Rg_op rfl (op_move (v := (Value.bool false)) rfl ?_)
     iterate 2 refine Rg_opx rfl (asB_ne rfl rfl) rfl ?_
     refine Rg_op rfl (op_pick_f (v := (Value.bool false)) rfl rfl ?_)
     refine Rg_op rfl (op_move (v := (Value.bool false)) rfl ?_)
     iterate 4 refine Rg_opx rfl (asB_ne rfl rfl) rfl ?_
     refine Rg_op rfl (op_pick_f (v := (Value.bool false)) rfl rfl ?_)
     refine Rg_op rfl (op_move (v := (Value.bool false)) rfl ?_)
     iterate 2 refine Rg_opx rfl (asB_ne rfl rfl) rfl ?_
     refine Rg_op rfl (op_pick_f (v := (Value.bool false)) rfl rfl ?_)
     refine Rg_op rfl (op_move (v := (Value.bool false)) rfl ?_)
     iterate 3 refine Rg_opx rfl (asB_ne rfl rfl) rfl ?_
     refine Rg_op rfl (op_pick_f (v := (Value.bool false)) rfl rfl ?_)
     refine Rg_op rfl (op_move (v := (Value.bool false)) rfl ?_)
     iterate 2 refine Rg_opx rfl (asB_ne rfl rfl) rfl ?_
     refine Rg_op rfl (op_pick_f (v := (Value.bool false)) rfl rfl ?_)
     refine Rg_op rfl (op_move (v := (Value.bool false)) rfl ?_)
     iterate 3 refine Rg_opx rfl (asB_ne rfl rfl) rfl ?_
     refine Rg_op rfl (op_pick_f (v := (Value.bool false)) rfl rfl ?_)
     refine Rg_op rfl (op_move (v := (Value.bool false)) rfl ?_)
     iterate 2 refine Rg_opx rfl (asB_ne rfl rfl) rfl ?_
     refine Rg_op rfl (op_pick_f (v := (Value.bool false)) rfl rfl ?_)
     refine Rg_op rfl (op_move (v := (Value.bool false)) rfl ?_)
     iterate 2 refine Rg_opx rfl (asB_ne rfl rfl) rfl ?_
     refine Rg_op rfl (op_pick_f (v := (Value.bool false)) rfl rfl ?_)
     refine Rg_op rfl (op_move (v := (Value.bool false)) rfl ?_)
     iterate 3 refine Rg_opx rfl (asB_ne rfl rfl) rfl ?_
     refine Rg_op rfl (op_pick_f (v := (Value.bool false)) rfl rfl ?_)
     refine Rg_op rfl (op_move (v := (Value.bool false)) rfl ?_)
     iterate 4 refine Rg_opx rfl (asB_ne rfl rfl) rfl ?_
     refine Rg_op rfl (op_pick_f (v := (Value.bool false)) rfl rfl ?_)
     refine Rg_op rfl (op_move (v := (Value.bool false)) rfl ?_)
     iterate 4 refine Rg_opx rfl (asB_ne rfl rfl) rfl ?_
     refine Rg_op rfl (op_pick_f (v := (Value.bool false)) rfl rfl ?_)
     refine Rg_op rfl (op_move (v := (Value.bool false)) rfl ?_)
     iterate 4 refine Rg_opx rfl (asB_ne rfl rfl) rfl ?_
     refine Rg_op rfl (op_pick_f (v := (Value.bool false)) rfl rfl ?_)
     refine Rg_op rfl (op_assign (v := (Value.bool false)) rfl ?_)
     refine Rg_nil ?_
     exact hK221 _ _ ⟨false, _, rfl, ⟨(by repeat (first | with_reducible exact Out.refl _ _ | refine Out.upd ?_ rfl | refine Out.updL ?_ rfl | refine Out.mix' ?_ rfl | exact Out.refl _ _)), rfl, rfl, trivial⟩, ch227, hs243, hm⟩
   ·
    replace hm := bif_f hm hg246
    iterate 2 refine Rg_opx rfl (asB_ne rfl rfl) rfl ?_
    refine Rg_op rfl (op_pick_f (v := (Value.bool false)) rfl rfl ?_)
    refine Rg_op rfl (op_move (v := (Value.bool false)) rfl ?_)
    iterate 3 refine Rg_opx rfl (asB_ne rfl rfl) rfl ?_
    refine Rg_op rfl (op_pick_f (v := (Value.bool false)) rfl rfl ?_)
    refine Rg_op rfl (op_move (v := (Value.bool false)) rfl ?_)
    iterate 2 refine Rg_opx rfl (asB_ne rfl rfl) rfl ?_
    refine Rg_op rfl (op_pick_f (v := (Value.bool false)) rfl rfl ?_)
    refine Rg_op rfl (op_move (v := (Value.bool false)) rfl ?_)
    iterate 4 refine Rg_opx rfl (asB_ne rfl rfl) rfl ?_
    refine Rg_op rfl (op_pick_f (v := (Value.bool false)) rfl rfl ?_)
    refine Rg_op rfl (op_move (v := (Value.bool false)) rfl ?_)
    iterate 2 refine Rg_opx rfl (asB_ne rfl rfl) rfl ?_
    refine Rg_op rfl (op_pick_f (v := (Value.bool false)) rfl rfl ?_)
    refine Rg_op rfl (op_move (v := (Value.bool false)) rfl ?_)
    iterate 4 refine Rg_opx rfl (asB_ne rfl rfl) rfl ?_
    refine Rg_op rfl (op_pick_f (v := (Value.bool false)) rfl rfl ?_)
    refine Rg_op rfl (op_move (v := (Value.bool false)) rfl ?_)
    iterate 2 refine Rg_opx rfl (asB_ne rfl rfl) rfl ?_
    refine Rg_op rfl (op_pick_f (v := (Value.bool false)) rfl rfl ?_)
    refine Rg_op rfl (op_move (v := (Value.bool false)) rfl ?_)
    iterate 3 refine Rg_opx rfl (asB_ne rfl rfl) rfl ?_
    refine Rg_op rfl (op_pick_f (v := (Value.bool false)) rfl rfl ?_)
    refine Rg_op rfl (op_move (v := (Value.bool false)) rfl ?_)
    iterate 2 refine Rg_opx rfl (asB_ne rfl rfl) rfl ?_
    refine Rg_op rfl (op_pick_f (v := (Value.bool false)) rfl rfl ?_)
    refine Rg_op rfl (op_move (v := (Value.bool false)) rfl ?_)
    iterate 3 refine Rg_opx rfl (asB_ne rfl rfl) rfl ?_
    refine Rg_op rfl (op_pick_f (v := (Value.bool false)) rfl rfl ?_)
    refine Rg_op rfl (op_move (v := (Value.bool false)) rfl ?_)
    iterate 2 refine Rg_opx rfl (asB_ne rfl rfl) rfl ?_
    refine Rg_op rfl (op_pick_f (v := (Value.bool false)) rfl rfl ?_)
    refine Rg_op rfl (op_move (v := (Value.bool false)) rfl ?_)
    iterate 2 refine Rg_opx rfl (asB_ne rfl rfl) rfl ?_
    refine Rg_op rfl (op_pick_f (v := (Value.bool false)) rfl rfl ?_)
    refine Rg_op rfl (op_move (v := (Value.bool false)) rfl ?_)
    iterate 3 refine Rg_opx rfl (asB_ne rfl rfl) rfl ?_
    refine Rg_op rfl (op_pick_f (v := (Value.bool false)) rfl rfl ?_)
    refine Rg_op rfl (op_move (v := (Value.bool false)) rfl ?_)
    iterate 4 refine Rg_opx rfl (asB_ne rfl rfl) rfl ?_
    refine Rg_op rfl (op_pick_f (v := (Value.bool false)) rfl rfl ?_)
    refine Rg_op rfl (op_move (v := (Value.bool false)) rfl ?_)
    iterate 4 refine Rg_opx rfl (asB_ne rfl rfl) rfl ?_
    refine Rg_op rfl (op_pick_f (v := (Value.bool false)) rfl rfl ?_)
    refine Rg_op rfl (op_move (v := (Value.bool false)) rfl ?_)
    iterate 4 refine Rg_opx rfl (asB_ne rfl rfl) rfl ?_
    refine Rg_op rfl (op_pick_f (v := (Value.bool false)) rfl rfl ?_)
    refine Rg_op rfl (op_assign (v := (Value.bool false)) rfl ?_)
    refine Rg_nil ?_
    exact hK221 _ _ ⟨false, _, rfl, ⟨(by repeat (first | with_reducible exact Out.refl _ _ | refine Out.upd ?_ rfl | refine Out.updL ?_ rfl | refine Out.mix' ?_ rfl | exact Out.refl _ _)), rfl, rfl, trivial⟩, ch227, hs243, hm⟩
  ·
   replace hm := bif_f hm hg228
   iterate 3 refine Rg_opx rfl (asB_ne rfl rfl) rfl ?_
   refine Rg_op rfl (op_pick_f (v := (Value.bool false)) rfl rfl ?_)
   refine Rg_op rfl (op_move (v := (Value.bool false)) rfl ?_)
   iterate 2 refine Rg_opx rfl (asB_ne rfl rfl) rfl ?_
   refine Rg_op rfl (op_pick_f (v := (Value.bool false)) rfl rfl ?_)
   refine Rg_op rfl (op_move (v := (Value.bool false)) rfl ?_)
   iterate 3 refine Rg_opx rfl (asB_ne rfl rfl) rfl ?_
   refine Rg_op rfl (op_pick_f (v := (Value.bool false)) rfl rfl ?_)
   refine Rg_op rfl (op_move (v := (Value.bool false)) rfl ?_)
   iterate 2 refine Rg_opx rfl (asB_ne rfl rfl) rfl ?_
   refine Rg_op rfl (op_pick_f (v := (Value.bool false)) rfl rfl ?_)
   refine Rg_op rfl (op_move (v := (Value.bool false)) rfl ?_)
   iterate 4 refine Rg_opx rfl (asB_ne rfl rfl) rfl ?_
   refine Rg_op rfl (op_pick_f (v := (Value.bool false)) rfl rfl ?_)
   refine Rg_op rfl (op_move (v := (Value.bool false)) rfl ?_)
   iterate 2 refine Rg_opx rfl (asB_ne rfl rfl) rfl ?_
   refine Rg_op rfl (op_pick_f (v := (Value.bool false)) rfl rfl ?_)
   refine Rg_op rfl (op_move (v := (Value.bool false)) rfl ?_)
   iterate 4 refine Rg_opx rfl (asB_ne rfl rfl) rfl ?_
   refine Rg_op rfl (op_pick_f (v := (Value.bool false)) rfl rfl ?_)
   refine Rg_op rfl (op_move (v := (Value.bool false)) rfl ?_)
   iterate 2 refine Rg_opx rfl (asB_ne rfl rfl) rfl ?_
   refine Rg_op rfl (op_pick_f (v := (Value.bool false)) rfl rfl ?_)
   refine Rg_op rfl (op_move (v := (Value.bool false)) rfl ?_)
   iterate 3 refine Rg_opx rfl (asB_ne rfl rfl) rfl ?_
   refine Rg_op rfl (op_pick_f (v := (Value.bool false)) rfl rfl ?_)
   refine Rg_op rfl (op_move (v := (Value.bool false)) rfl ?_)
   iterate 2 refine Rg_opx rfl (asB_ne rfl rfl) rfl ?_
   refine Rg_op rfl (op_pick_f (v := (Value.bool false)) rfl rfl ?_)
   refine Rg_op rfl (op_move (v := (Value.bool false)) rfl ?_)
   iterate 3 refine Rg_opx rfl (asB_ne rfl rfl) rfl ?_
   refine Rg_op rfl (op_pick_f (v := (Value.bool false)) rfl rfl ?_)
   refine Rg_op rfl (op_move (v := (Value.bool false)) rfl ?_)
   iterate 2 refine Rg_opx rfl (asB_ne rfl rfl) rfl ?_
   refine Rg_op rfl (op_pick_f (v := (Value.bool false)) rfl rfl ?_)
   refine Rg_op rfl (op_move (v := (Value.bool false)) rfl ?_)
   iterate 2 refine Rg_opx rfl (asB_ne rfl rfl) rfl ?_
   refine Rg_op rfl (op_pick_f (v := (Value.bool false)) rfl rfl ?_)
   refine Rg_op rfl (op_move (v := (Value.bool false)) rfl ?_)
   iterate 3 refine Rg_opx rfl (asB_ne rfl rfl) rfl ?_
   refine Rg_op rfl (op_pick_f (v := (Value.bool false)) rfl rfl ?_)
   refine Rg_op rfl (op_move (v := (Value.bool false)) rfl ?_)
   iterate 4 refine Rg_opx rfl (asB_ne rfl rfl) rfl ?_
   refine Rg_op rfl (op_pick_f (v := (Value.bool false)) rfl rfl ?_)
   refine Rg_op rfl (op_move (v := (Value.bool false)) rfl ?_)
   iterate 4 refine Rg_opx rfl (asB_ne rfl rfl) rfl ?_
   refine Rg_op rfl (op_pick_f (v := (Value.bool false)) rfl rfl ?_)
   refine Rg_op rfl (op_move (v := (Value.bool false)) rfl ?_)
   iterate 4 refine Rg_opx rfl (asB_ne rfl rfl) rfl ?_
   refine Rg_op rfl (op_pick_f (v := (Value.bool false)) rfl rfl ?_)
   refine Rg_op rfl (op_assign (v := (Value.bool false)) rfl ?_)
   refine Rg_nil ?_
   exact hK221 _ _ ⟨false, _, rfl, ⟨(by repeat (first | with_reducible exact Out.refl _ _ | refine Out.upd ?_ rfl | refine Out.updL ?_ rfl | refine Out.mix' ?_ rfl | exact Out.refl _ _)), rfl, rfl, trivial⟩, ch227, hs209, hm⟩

end Go.Fx



set_option linter.unusedVariables false
set_option linter.unusedSimpArgs false
set_option maxRecDepth 100000
set_option maxHeartbeats 0
namespace Go.Fx
open Go Go.RowKit Go.Proofs
def m54_overflightref37_Valid_B1 (r_ : XRound) (i_1 : Int) (sf21 : Int → Option Bool) (sf46 : Int → Option Bool) (k_1 : Int) : Option Bool :=
 bif (decide (k_1 < r_.slots)) then
  jn (fun (v_3 : Bool) =>
   bif v_3 then
    some false
   else
    sf46 (IntKind.wrap .i64 (k_1 + 1)))
  (fun k59 =>
   ck ((0 : Int) ≤ i_1 ∧ i_1 < (r_.costs.length : Int)) <|
   ck ((0 : Int) ≤ k_1 ∧ k_1 < ((r_.costs.getD i_1.toNat default).length : Int)) <|
   bif (decide (((r_.costs.getD i_1.toNat default).getD k_1.toNat default) < (-1))) then
    k59 true
   else
    ck ((0 : Int) ≤ i_1 ∧ i_1 < (r_.costs.length : Int)) <|
    ck ((0 : Int) ≤ k_1 ∧ k_1 < ((r_.costs.getD i_1.toNat default).length : Int)) <|
    bif (decide (1048576 < ((r_.costs.getD i_1.toNat default).getD k_1.toNat default))) then
     k59 true
    else
     bif (decide (k_1 = i_1)) then
      ck ((0 : Int) ≤ i_1 ∧ i_1 < (r_.costs.length : Int)) <|
      ck ((0 : Int) ≤ k_1 ∧ k_1 < ((r_.costs.getD i_1.toNat default).length : Int)) <|
      k59 (decide (((r_.costs.getD i_1.toNat default).getD k_1.toNat default) < 0))
     else
      k59 false)
 else
  sf21 (IntKind.wrap .i64 (i_1 + 1))

def m54_overflightref37_Valid_B0 (r_ : XRound) (sf21 : Int → Option Bool) (i_1 : Int) : Option Bool :=
 bif (decide (i_1 < (r_.owners.length : Int))) then
  jn (fun (v_2 : Bool) =>
   bif v_2 then
    some false
   else
    loop1 (m54_overflightref37_Valid_B1 r_ i_1 sf21) ((r_.slots - 0).toNat + 1) 0)
  (fun k35 =>
   ck ((0 : Int) ≤ i_1 ∧ i_1 < (r_.owners.length : Int)) <|
   bif (decide ((r_.owners.getD i_1.toNat default) < 0)) then
    k35 true
   else
    ck ((0 : Int) ≤ i_1 ∧ i_1 < (r_.owners.length : Int)) <|
    bif (decide (8 ≤ (r_.owners.getD i_1.toNat default))) then
     k35 true
    else
     ck ((0 : Int) ≤ i_1 ∧ i_1 < (r_.costs.length : Int)) <|
     k35 (decide (((r_.costs.getD i_1.toNat default).length : Int) ≠ r_.slots)))
 else
  some true

def m54_overflightref37_Valid (r_ : XRound) : Option Bool :=
 jn (fun (v_1 : Bool) =>
  bif v_1 then
   some false
  else
   loop1 (m54_overflightref37_Valid_B0 r_) (((r_.owners.length : Int) - 0).toNat + 1) 0)
 (fun k8 =>
  bif (decide (r_.slots < 1)) then
   k8 true
  else
   bif (decide (8 < r_.slots)) then
    k8 true
   else
    bif (decide (r_.slots < (r_.owners.length : Int))) then
     k8 true
    else
     k8 (decide ((r_.costs.length : Int) ≠ (r_.owners.length : Int))))

theorem c54_overflightref37_Valid {w : World} {O : List Nat} {r_ : XRound} {a_r__owners : Option Addr} {c_r__owners : Nat} {a_r__costs : Option Addr} {c_r__costs : Nat} (hO : ∀ k ∈ O, k < w.heap.size) (r_r__slots : InK .i64 r_.slots) (f_r__owners : SlR (rInt .i64) w O a_r__owners c_r__owners r_.owners) (f_r__costs : SlR (rSl (rInt .i64)) w O a_r__costs c_r__costs r_.costs) {x : Bool} (hm : m54_overflightref37_Valid r_ = some x) :
  Ok Try.prog 54 [(Value.agg [(Value.int .i64 r_.slots), (Value.slice a_r__owners r_.owners.length c_r__owners), (Value.slice a_r__costs r_.costs.length c_r__costs)].toArray)] w O vB x := by
 unfold m54_overflightref37_Valid at hm
 refine Fn_of_Wp (n := 104) (xs := [.tmp 2]) Try.func54 rfl Try.ntmps54 Try.results54 rfl ?_
 have hs := St.start hO
 refine Wp_seq ?_
 refine Wp_region ?_
 refine Rg_op rfl (op_box (cs := [(Value.int .i64 r_.slots), (Value.slice a_r__owners r_.owners.length c_r__owners), (Value.slice a_r__costs r_.costs.length c_r__costs)]) hs rfl rfl ?_)
 intro b1 w2 _ p3 hs4
 replace f_r__owners := f_r__owners.step p3; replace f_r__costs := f_r__costs.step p3; clear p3
 refine Rg_op rfl (op_assign (v := (Value.bool false)) rfl ?_)
 refine Rg_nil ?_
 refine Wp_seq ?_
 refine Wp_reset [] [(1, (Value.pointer (some ⟨b1, 0, none⟩)))] rfl ⟨rfl, trivial⟩ fun ξ6 => ?_
 replace hm := jn_elim hm; obtain ⟨k8, hk9, hm⟩ := hm
 refine Wp_seqJ [5, 6, 7, 8, 9, 10, 11, 12, 13, 14, 15, 16, 17, 18, 19, 20, 21, 22, 23, 24, 25, 26, 27, 28, 29] (fun fr w' => ∃ (v_1 : Bool) (Ebs : Ents), Ebs = [(some b1, Obj.cells [(Value.int .i64 r_.slots), (Value.slice a_r__owners r_.owners.length c_r__owners), (Value.slice a_r__costs r_.costs.length c_r__costs)].toArray 25)] ∧ fr [] [(29, (Value.bool v_1))] ∧ Step (ks [(some b1, Obj.cells [(Value.int .i64 r_.slots), (Value.slice a_r__owners r_.owners.length c_r__owners), (Value.slice a_r__costs r_.costs.length c_r__costs)].toArray 25)] O) w2 (ks Ebs O) w' ∧ St ⟨w, [], []⟩ O w' Ebs ∧ k8 v_1 = some x) ?_ ?_
 ·
  rintro ρ15 w11 ⟨v_1, Ebs, hEbs, hfr14, hst13, hs12, hm⟩
  replace hm := jnE1 hk9 hm
  subst hEbs; rw [hfr14.eq]; clear hfr14
  replace f_r__owners := f_r__owners.step hst13; replace f_r__costs := f_r__costs.step hst13; clear hst13 hs4
  refine Wp_cond rfl (fun hc16 => ?_) (fun hc16 => ?_)
  ·
   replace hm := bif_t hm hc16
   refine Wp_seq ?_
   obtain ⟨hs17, p18⟩ := hs12.sub (bs' := []) (.cons _ List.Sublist.slnil)
   clear f_r__owners f_r__costs
   clear p18 hs12
   refine Wp_region ?_
   refine Rg_op rfl (op_assign (v := (Value.bool false)) rfl ?_)
   refine Rg_nil ?_
   refine Wp_ret ?_
   have hz := step_all hs17
   refine ⟨_, (show Closes [] _ _ from rfl), [(Value.bool false)], ⟨rfl, trivial⟩, hs17.ext, ?_⟩
   exact Vr.eq (a := vB) (x := false) rfl (Option.some.inj hm)
  ·
   replace hm := bif_f hm hc16
   refine Wp_skip ?_
   refine Wp_seq ?_
   refine Wp_seq ?_
   refine Wp_region ?_
   refine Rg_op rfl (op_assign (v := (Value.int .i64 0)) rfl ?_)
   refine Rg_nil ?_
   refine Wp_block ?_
   refine Wp_reset [] [(1, (Value.pointer (some ⟨b1, 0, none⟩))), (3, (Value.int .i64 0))] rfl ⟨rfl, rfl, trivial⟩ fun ξ20 => ?_
   refine Wp_loopM [2, 3, 4, 30, 31, 32, 33, 34, 35, 36, 37, 38, 39, 40, 41, 42, 43, 44, 45, 46, 47, 48, 49, 50, 51, 52, 53, 54, 55, 56, 57, 58, 59, 60, 61, 62, 63, 64, 65, 66, 67, 68, 69, 70, 71, 72, 73, 74, 75, 76, 77, 78, 79, 80, 81, 82, 83, 84, 85, 86, 87, 88, 89, 90, 91, 92, 93, 94, 95, 96, 97, 98, 99, 100, 101, 102, 103] (fun m fr w' => ∃ (i_1 : Int) (Ebs : Ents), Ebs = [(some b1, Obj.cells [(Value.int .i64 r_.slots), (Value.slice a_r__owners r_.owners.length c_r__owners), (Value.slice a_r__costs r_.costs.length c_r__costs)].toArray 25)] ∧ fr [] [(3, (Value.int .i64 i_1))] ∧ Step (ks [(some b1, Obj.cells [(Value.int .i64 r_.slots), (Value.slice a_r__owners r_.owners.length c_r__owners), (Value.slice a_r__costs r_.costs.length c_r__costs)].toArray 25)] O) w11 (ks Ebs O) w' ∧ St ⟨w, [], []⟩ O w' Ebs ∧ InK .i64 i_1 ∧ loop1 (m54_overflightref37_Valid_B0 r_) m i_1 = some x) (((r_.owners.length : Int) - 0).toNat + 1) ⟨0, _, rfl, ⟨Out.refl _ _, rfl, rfl, trivial⟩, Step.refl _ _, hs12, (show InK .i64 0 from by decide), hm⟩ ?_ ?_
   · rintro _ _ ⟨_, _, _, _, _, _, _, hm⟩; exact loop1_z hm
   ·
    rintro m24 K23 hK23 ρ29 w25 ⟨i_1, Ebs, hEbs, hfr28, hst27, hs26, r_y19, hm⟩
    obtain ⟨sf21, hsf22, hm⟩ := loop1_s hm; unfold m54_overflightref37_Valid_B0 at hm
    subst hEbs; rw [hfr28.eq]; clear hfr28
    replace f_r__owners := f_r__owners.step hst27; replace f_r__costs := f_r__costs.step hst27
    have ch30 := hst27
    refine Wp_seq ?_
    refine Wp_seq ?_
    refine Wp_region ?_
    refine Rg_op rfl (op_move (v := (Value.int .i64 i_1)) rfl ?_)
    refine Rg_op rfl (op_fieldAddr ty25 rfl ty22 (by decide) rfl (rfl : _ = (⟨_, 1, none⟩ : Addr)) ?_)
    refine Rg_op rfl (op_load (cs := [(Value.int .i64 r_.slots), (Value.slice a_r__owners r_.owners.length c_r__owners), (Value.slice a_r__costs r_.costs.length c_r__costs)]) (i := 0) ty22 hs26 rfl rfl rfl ?_)
    refine Rg_op rfl (op_len Try.underlying22 rfl ?_)
    have rl31 := inK_len f_r__owners
    refine Rg_op rfl (op_lss rfl rfl ?_)
    refine Rg_nil ?_
    refine Wp_cond rfl (fun hc32 => ?_) (fun hc32 => ?_)
    ·
     replace hm := bif_t hm hc32
     refine Wp_skip ?_
     refine Wp_seq ?_
     refine Wp_block ?_
     refine Wp_seq ?_
     refine Wp_reset2 [2, 3, 4, 30, 31, 32, 33, 34, 35, 36, 37, 38, 39, 40, 41, 42, 43, 44, 45, 46, 47, 48, 49, 50, 51, 52, 53, 54, 55, 56, 57, 58, 59, 60, 61, 62, 63, 64, 65, 66, 67, 68, 69, 70, 71, 72, 73, 74, 75, 76, 77, 78, 79, 80, 81, 82, 83, 84, 85, 86, 87, 88, 89, 90, 91, 92, 93, 94, 95, 96, 97, 98, 99, 100, 101, 102, 103] [] (updL ⟨ξ20, []⟩ [(1, (Value.pointer (some ⟨b1, 0, none⟩))), (3, (Value.int .i64 0))]) [(3, (Value.int .i64 i_1))] (by repeat (first | with_reducible exact Out.refl _ _ | refine Out.upd ?_ rfl | refine Out.updL ?_ rfl | refine Out.mix' ?_ rfl | exact Out.refl _ _)) rfl ⟨rfl, trivial⟩ fun ξ33 => ?_
     replace hm := jn_elim hm; obtain ⟨k35, hk36, hm⟩ := hm
     refine Wp_seqJ [37, 38, 39, 40, 41, 42, 43, 44, 45, 46, 47, 48, 49, 50, 51, 52, 53, 54, 55, 56, 57, 58, 59, 60, 61] (fun fr w' => ∃ (v_2 : Bool) (Ebs : Ents), Ebs = [(some b1, Obj.cells [(Value.int .i64 r_.slots), (Value.slice a_r__owners r_.owners.length c_r__owners), (Value.slice a_r__costs r_.costs.length c_r__costs)].toArray 25)] ∧ fr [] [(61, (Value.bool v_2))] ∧ Step (ks [(some b1, Obj.cells [(Value.int .i64 r_.slots), (Value.slice a_r__owners r_.owners.length c_r__owners), (Value.slice a_r__costs r_.costs.length c_r__costs)].toArray 25)] O) w25 (ks Ebs O) w' ∧ St ⟨w, [], []⟩ O w' Ebs ∧ k35 v_2 = some x) ?_ ?_
     ·
      rintro ρ42 w38 ⟨v_2, Ebs, hEbs, hfr41, hst40, hs39, hm⟩
      replace hm := jnE1 hk36 hm
      subst hEbs; rw [hfr41.eq]; clear hfr41
      replace f_r__owners := f_r__owners.step hst40; replace f_r__costs := f_r__costs.step hst40; replace ch30 := ch30.trans hst40; clear hst40 hs26
      refine Wp_cond rfl (fun hc43 => ?_) (fun hc43 => ?_)
      ·
       replace hm := bif_t hm hc43
       refine Wp_seq ?_
       refine Wp_region ?_
       refine Rg_op rfl (op_assign (v := (Value.bool false)) rfl ?_)
       refine Rg_nil ?_
       refine Wp_ret ?_
       have hz := step_all hs39
       replace f_r__owners := f_r__owners.step hz; replace f_r__costs := f_r__costs.step hz
       refine ⟨_, (show Closes [] _ _ from rfl), [(Value.bool false)], ⟨rfl, trivial⟩, hs39.ext, ?_⟩
       exact Vr.eq (a := vB) (x := false) rfl (Option.some.inj hm)
      ·
       replace hm := bif_f hm hc43
       refine Wp_skip ?_
       refine Wp_seq ?_
       refine Wp_region ?_
       refine Rg_op rfl (op_assign (v := (Value.int .i64 0)) rfl ?_)
       refine Rg_nil ?_
       refine Wp_block ?_
       refine Wp_reset2 [2, 3, 4, 30, 31, 32, 33, 34, 35, 36, 37, 38, 39, 40, 41, 42, 43, 44, 45, 46, 47, 48, 49, 50, 51, 52, 53, 54, 55, 56, 57, 58, 59, 60, 61, 62, 63, 64, 65, 66, 67, 68, 69, 70, 71, 72, 73, 74, 75, 76, 77, 78, 79, 80, 81, 82, 83, 84, 85, 86, 87, 88, 89, 90, 91, 92, 93, 94, 95, 96, 97, 98, 99, 100, 101, 102, 103] [] (updL ⟨ξ20, []⟩ [(1, (Value.pointer (some ⟨b1, 0, none⟩))), (3, (Value.int .i64 0))]) [(3, (Value.int .i64 i_1)), (4, (Value.int .i64 0))] (by repeat (first | with_reducible exact Out.refl _ _ | refine Out.upd ?_ rfl | refine Out.updL ?_ rfl | refine Out.mix' ?_ rfl | exact Out.refl _ _)) rfl ⟨rfl, rfl, trivial⟩ fun ξ45 => ?_
       refine Wp_loopM [2, 4, 62, 63, 64, 65, 66, 67, 68, 69, 70, 71, 72, 73, 74, 75, 76, 77, 78, 79, 80, 81, 82, 83, 84, 85, 86, 87, 88, 89, 90, 91, 92, 93, 94, 95, 96, 97, 98, 99, 100, 101, 102, 103] (fun m fr w' => ∃ (k_1 : Int) (Ebs : Ents), Ebs = [(some b1, Obj.cells [(Value.int .i64 r_.slots), (Value.slice a_r__owners r_.owners.length c_r__owners), (Value.slice a_r__costs r_.costs.length c_r__costs)].toArray 25)] ∧ fr [] [(4, (Value.int .i64 k_1))] ∧ Step (ks [(some b1, Obj.cells [(Value.int .i64 r_.slots), (Value.slice a_r__owners r_.owners.length c_r__owners), (Value.slice a_r__costs r_.costs.length c_r__costs)].toArray 25)] O) w38 (ks Ebs O) w' ∧ St ⟨w, [], []⟩ O w' Ebs ∧ InK .i64 k_1 ∧ loop1 (m54_overflightref37_Valid_B1 r_ i_1 sf21) m k_1 = some x) ((r_.slots - 0).toNat + 1) ⟨0, _, rfl, ⟨Out.refl _ _, rfl, rfl, trivial⟩, Step.refl _ _, hs39, (show InK .i64 0 from by decide), hm⟩ ?_ ?_
       · rintro _ _ ⟨_, _, _, _, _, _, _, hm⟩; exact loop1_z hm
       ·
        rintro m49 K48 hK48 ρ54 w50 ⟨k_1, Ebs, hEbs, hfr53, hst52, hs51, r_y44, hm⟩
        obtain ⟨sf46, hsf47, hm⟩ := loop1_s hm; unfold m54_overflightref37_Valid_B1 at hm
        subst hEbs; rw [hfr53.eq]; clear hfr53
        replace f_r__owners := f_r__owners.step hst52; replace f_r__costs := f_r__costs.step hst52; replace ch30 := ch30.trans hst52
        have ch55 := hst52
        refine Wp_seq ?_
        refine Wp_seq ?_
        refine Wp_region ?_
        refine Rg_op rfl (op_move (v := (Value.int .i64 k_1)) rfl ?_)
        refine Rg_op rfl (op_fieldAddr ty25 rfl ty3 (by decide) rfl (rfl : _ = (⟨_, 0, none⟩ : Addr)) ?_)
        refine Rg_op rfl (op_load (cs := [(Value.int .i64 r_.slots), (Value.slice a_r__owners r_.owners.length c_r__owners), (Value.slice a_r__costs r_.costs.length c_r__costs)]) (i := 0) ty3 hs51 rfl rfl rfl ?_)
        refine Rg_op rfl (op_lss rfl rfl ?_)
        refine Rg_nil ?_
        refine Wp_cond rfl (fun hc56 => ?_) (fun hc56 => ?_)
        ·
         replace hm := bif_t hm hc56
         refine Wp_skip ?_
         refine Wp_seq ?_
         refine Wp_block ?_
         refine Wp_reset2 [2, 4, 62, 63, 64, 65, 66, 67, 68, 69, 70, 71, 72, 73, 74, 75, 76, 77, 78, 79, 80, 81, 82, 83, 84, 85, 86, 87, 88, 89, 90, 91, 92, 93, 94, 95, 96, 97, 98, 99, 100, 101, 102, 103] [] (updL (mix [2, 3, 4, 30, 31, 32, 33, 34, 35, 36, 37, 38, 39, 40, 41, 42, 43, 44, 45, 46, 47, 48, 49, 50, 51, 52, 53, 54, 55, 56, 57, 58, 59, 60, 61, 62, 63, 64, 65, 66, 67, 68, 69, 70, 71, 72, 73, 74, 75, 76, 77, 78, 79, 80, 81, 82, 83, 84, 85, 86, 87, 88, 89, 90, 91, 92, 93, 94, 95, 96, 97, 98, 99, 100, 101, 102, 103] [] ξ45 (updL ⟨ξ20, []⟩ [(1, (Value.pointer (some ⟨b1, 0, none⟩))), (3, (Value.int .i64 0))])) [(3, (Value.int .i64 i_1)), (4, (Value.int .i64 0))]) [(4, (Value.int .i64 k_1))] (by repeat (first | with_reducible exact Out.refl _ _ | refine Out.upd ?_ rfl | refine Out.updL ?_ rfl | refine Out.mix' ?_ rfl | exact Out.refl _ _)) rfl ⟨rfl, trivial⟩ fun ξ57 => ?_
         replace hm := jn_elim hm; obtain ⟨k59, hk60, hm⟩ := hm
         refine Wp_seqJ [68, 69, 70, 71, 72, 73, 74, 75, 76, 77, 78, 79, 80, 81, 82, 83, 84, 85, 86, 87, 88, 89, 90, 91, 92, 93, 94, 95, 96, 97, 98, 99, 100, 101, 102, 103] (fun fr w' => ∃ (v_3 : Bool) (Ebs : Ents), Ebs = [(some b1, Obj.cells [(Value.int .i64 r_.slots), (Value.slice a_r__owners r_.owners.length c_r__owners), (Value.slice a_r__costs r_.costs.length c_r__costs)].toArray 25)] ∧ fr [] [(103, (Value.bool v_3))] ∧ Step (ks [(some b1, Obj.cells [(Value.int .i64 r_.slots), (Value.slice a_r__owners r_.owners.length c_r__owners), (Value.slice a_r__costs r_.costs.length c_r__costs)].toArray 25)] O) w50 (ks Ebs O) w' ∧ St ⟨w, [], []⟩ O w' Ebs ∧ k59 v_3 = some x) ?_ ?_
         ·
          rintro ρ66 w62 ⟨v_3, Ebs, hEbs, hfr65, hst64, hs63, hm⟩
          replace hm := jnE1 hk60 hm
          subst hEbs; rw [hfr65.eq]; clear hfr65
          replace f_r__owners := f_r__owners.step hst64; replace f_r__costs := f_r__costs.step hst64; replace ch30 := ch30.trans hst64; replace ch55 := ch55.trans hst64; clear hst64 hs51
          refine Wp_cond rfl (fun hc67 => ?_) (fun hc67 => ?_)
          ·
           replace hm := bif_t hm hc67
           refine Wp_seq ?_
           refine Wp_region ?_
           refine Rg_op rfl (op_assign (v := (Value.bool false)) rfl ?_)
           refine Rg_nil ?_
           refine Wp_ret ?_
           have hz := step_all hs63
           replace f_r__owners := f_r__owners.step hz; replace f_r__costs := f_r__costs.step hz
           refine ⟨_, (show Closes [] _ _ from rfl), [(Value.bool false)], ⟨rfl, trivial⟩, hs63.ext, ?_⟩
           exact Vr.eq (a := vB) (x := false) rfl (Option.some.inj hm)
          ·
           replace hm := bif_f hm hc67
           refine Wp_skip ?_
           refine Wp_region ?_
           refine Rg_op rfl (op_move (v := (Value.int .i64 k_1)) rfl ?_)
           refine Rg_op rfl (op_addw rfl rfl ?_)
           refine Rg_op rfl (op_assign (v := (Value.int .i64 (IntKind.wrap .i64 (k_1 + 1)))) rfl ?_)
           refine Rg_nil ?_
           exact hK48 _ _ ⟨(IntKind.wrap .i64 (k_1 + 1)), _, rfl, ⟨(by repeat (first | with_reducible exact Out.refl _ _ | refine Out.upd ?_ rfl | refine Out.updL ?_ rfl | refine Out.mix' ?_ rfl | exact Out.refl _ _)), rfl, rfl, trivial⟩, ch55, hs63, (inK_wrap .i64 _), jnE1 hsf47 hm⟩
         ·
          intro K61 hK61
          have ch68 := Step.refl (ks [(some b1, Obj.cells [(Value.int .i64 r_.slots), (Value.slice a_r__owners r_.owners.length c_r__owners), (Value.slice a_r__costs r_.costs.length c_r__costs)].toArray 25)] O) w50
          refine Wp_region ?_
          refine Rg_op rfl (op_fieldAddr ty25 rfl ty23 (by decide) rfl (rfl : _ = (⟨_, 2, none⟩ : Addr)) ?_)
          refine Rg_op rfl (op_load (cs := [(Value.int .i64 r_.slots), (Value.slice a_r__owners r_.owners.length c_r__owners), (Value.slice a_r__costs r_.costs.length c_r__costs)]) (i := 0) ty23 hs51 rfl rfl rfl ?_)
          refine Rg_op rfl (op_move (v := (Value.int .i64 i_1)) rfl ?_)
          replace hm := ck_some hm; obtain ⟨hc69, hm⟩ := hm
          refine Rg_op rfl (op_indexAddr (q := (rSl (rInt .i64))) ty23 ty22 rfl rfl f_r__costs rfl hc69.1 hc69.2 ?_)
          intro p70 f71
          refine Rg_op rfl (op_loadP ty22 rfl f71 rfl ?_)
          intro v72 h73
          obtain ⟨a_y74, c_y74, rfl, f_y74⟩ := un_sl h73
          refine Rg_op rfl (op_move (v := (Value.int .i64 k_1)) rfl ?_)
          replace hm := ck_some hm; obtain ⟨hc75, hm⟩ := hm
          refine Rg_op rfl (op_indexAddr (q := (rInt .i64)) ty22 ty3 rfl rfl f_y74 rfl hc75.1 hc75.2 ?_)
          intro p76 f77
          refine Rg_op rfl (op_loadP ty3 rfl f77 rfl ?_)
          intro v78 h79
          obtain ⟨rfl, r_y80⟩ := un_int h79
          refine Rg_op rfl (op_lss rfl rfl ?_)
          refine Rg_op rfl (op_move (v := (Value.bool (decide (((r_.costs.getD i_1.toNat default).getD k_1.toNat default) < (-1))))) rfl ?_)
          refine Rg_case (fun hg81 => ?_) (fun hg81 => ?_)
          ·
           replace hm := bif_t hm hg81
           iterate 9 refine Rg_opx rfl (asB_ne rfl rfl) rfl ?_
           refine Rg_op rfl (op_pick_t (v := (Value.bool true)) rfl rfl ?_)
           refine Rg_op rfl (op_move (v := (Value.bool true)) rfl ?_)
           iterate 14 refine Rg_opx rfl (asB_ne rfl rfl) rfl ?_
           refine Rg_op rfl (op_pick_t (v := (Value.bool true)) rfl rfl ?_)
           refine Rg_nil ?_
           exact hK61 _ _ ⟨true, _, rfl, ⟨(by repeat (first | with_reducible exact Out.refl _ _ | refine Out.upd ?_ rfl | refine Out.updL ?_ rfl | refine Out.mix' ?_ rfl | exact Out.refl _ _)), rfl, rfl, trivial⟩, ch68, hs51, hm⟩
          ·
           replace hm := bif_f hm hg81
           refine Rg_opg rfl rfl rfl (op_fieldAddr ty25 rfl ty23 (by decide) rfl (rfl : _ = (⟨_, 2, none⟩ : Addr)) ?_)
           refine Rg_opg rfl rfl rfl (op_load (cs := [(Value.int .i64 r_.slots), (Value.slice a_r__owners r_.owners.length c_r__owners), (Value.slice a_r__costs r_.costs.length c_r__costs)]) (i := 0) ty23 hs51 rfl rfl rfl ?_)
           refine Rg_opg rfl rfl rfl (op_move (v := (Value.int .i64 i_1)) rfl ?_)
           replace hm := ck_some hm; obtain ⟨hc82, hm⟩ := hm
           refine Rg_opg rfl rfl rfl (op_indexAddr (q := (rSl (rInt .i64))) ty23 ty22 rfl rfl f_r__costs rfl hc82.1 hc82.2 ?_)
           intro p83 f84
           refine Rg_opg rfl rfl rfl (op_loadP ty22 rfl f84 rfl ?_)
           intro v85 h86
           obtain ⟨a_y87, c_y87, rfl, f_y87⟩ := un_sl h86
           refine Rg_opg rfl rfl rfl (op_move (v := (Value.int .i64 k_1)) rfl ?_)
           replace hm := ck_some hm; obtain ⟨hc88, hm⟩ := hm
           refine Rg_opg rfl rfl rfl (op_indexAddr (q := (rInt .i64)) ty22 ty3 rfl rfl f_y87 rfl hc88.1 hc88.2 ?_)
           intro p89 f90
           refine Rg_opg rfl rfl rfl (op_loadP ty3 rfl f90 rfl ?_)
           intro v91 h92
           obtain ⟨rfl, r_y93⟩ := un_int h92
           refine Rg_opg rfl rfl rfl (op_gtr rfl rfl ?_)
           refine Rg_op rfl (op_pick_f (v := (Value.bool (decide (1048576 < ((r_.costs.getD i_1.toNat default).getD k_1.toNat default))))) rfl rfl ?_)
           refine Rg_op rfl (op_move (v := (Value.bool (decide (1048576 < ((r_.costs.getD i_1.toNat default).getD k_1.toNat default))))) rfl ?_)
           refine Rg_case (fun hg94 => ?_) (fun hg94 => ?_)
           ·
            replace hm := bif_t hm hg94
            iterate 14 refine Rg_opx rfl (asB_ne rfl rfl) rfl ?_
            refine Rg_op rfl (op_pick_t (v := (Value.bool true)) rfl rfl ?_)
            refine Rg_nil ?_
            exact hK61 _ _ ⟨true, _, rfl, ⟨(by repeat (first | with_reducible exact Out.refl _ _ | refine Out.upd ?_ rfl | refine Out.updL ?_ rfl | refine Out.mix' ?_ rfl | exact Out.refl _ _)), rfl, rfl, trivial⟩, ch68, hs51, hm⟩
           ·
            replace hm := bif_f hm hg94
            refine Rg_opg rfl rfl rfl (op_move (v := (Value.int .i64 k_1)) rfl ?_)
            refine Rg_opg rfl rfl rfl (op_move (v := (Value.int .i64 i_1)) rfl ?_)
            refine Rg_opg rfl rfl rfl (op_eql rfl rfl ?_)
            refine Rg_opg rfl rfl rfl (op_move (v := (Value.bool (decide (k_1 = i_1)))) rfl ?_)
            refine Rg_case (fun hg95 => ?_) (fun hg95 => ?_)
            ·
             replace hm := bif_t hm hg95
             refine Rg_opg rfl rfl rfl (op_fieldAddr ty25 rfl ty23 (by decide) rfl (rfl : _ = (⟨_, 2, none⟩ : Addr)) ?_)
             refine Rg_opg rfl rfl rfl (op_load (cs := [(Value.int .i64 r_.slots), (Value.slice a_r__owners r_.owners.length c_r__owners), (Value.slice a_r__costs r_.costs.length c_r__costs)]) (i := 0) ty23 hs51 rfl rfl rfl ?_)
             refine Rg_opg rfl rfl rfl (op_move (v := (Value.int .i64 i_1)) rfl ?_)
             replace hm := ck_some hm; obtain ⟨hc96, hm⟩ := hm
             refine Rg_opg rfl rfl rfl (op_indexAddr (q := (rSl (rInt .i64))) ty23 ty22 rfl rfl f_r__costs rfl hc96.1 hc96.2 ?_)
             intro p97 f98
             refine Rg_opg rfl rfl rfl (op_loadP ty22 rfl f98 rfl ?_)
             intro v99 h100
             obtain ⟨a_y101, c_y101, rfl, f_y101⟩ := un_sl h100
             refine Rg_opg rfl rfl rfl (op_move (v := (Value.int .i64 k_1)) rfl ?_)
             replace hm := ck_some hm; obtain ⟨hc102, hm⟩ := hm
             refine Rg_opg rfl rfl rfl (op_indexAddr (q := (rInt .i64)) ty22 ty3 rfl rfl f_y101 rfl hc102.1 hc102.2 ?_)
             intro p103 f104
             refine Rg_opg rfl rfl rfl (op_loadP ty3 rfl f104 rfl ?_)
             intro v105 h106
             obtain ⟨rfl, r_y107⟩ := un_int h106
             refine Rg_opg rfl rfl rfl (op_lss rfl rfl ?_)
             refine Rg_opg rfl rfl rfl (op_pick_t (v := (Value.bool (decide (((r_.costs.getD i_1.toNat default).getD k_1.toNat default) < 0)))) rfl rfl ?_)
             refine Rg_op rfl (op_pick_f (v := (Value.bool (decide (((r_.costs.getD i_1.toNat default).getD k_1.toNat default) < 0)))) rfl rfl ?_)
             refine Rg_nil ?_
             exact hK61 _ _ ⟨(decide (((r_.costs.getD i_1.toNat default).getD k_1.toNat default) < 0)), _, rfl, ⟨(by repeat (first | with_reducible exact Out.refl _ _ | refine Out.upd ?_ rfl | refine Out.updL ?_ rfl | refine Out.mix' ?_ rfl | exact Out.refl _ _)), rfl, rfl, trivial⟩, ch68, hs51, hm⟩
            ·
             replace hm := bif_f hm hg95
             iterate 9 refine Rg_opx rfl (asB_ne rfl rfl) rfl ?_
             refine Rg_opg rfl rfl rfl (op_pick_f (v := (Value.bool false)) rfl rfl ?_)
             refine Rg_op rfl (op_pick_f (v := (Value.bool false)) rfl rfl ?_)
             refine Rg_nil ?_
             exact hK61 _ _ ⟨false, _, rfl, ⟨(by repeat (first | with_reducible exact Out.refl _ _ | refine Out.upd ?_ rfl | refine Out.updL ?_ rfl | refine Out.mix' ?_ rfl | exact Out.refl _ _)), rfl, rfl, trivial⟩, ch68, hs51, hm⟩
        ·
         replace hm := bif_f hm hc56
         refine Wp_exit ?_
         refine Wp_region ?_
         refine Rg_op rfl (op_move (v := (Value.int .i64 i_1)) rfl ?_)
         refine Rg_op rfl (op_addw rfl rfl ?_)
         refine Rg_op rfl (op_assign (v := (Value.int .i64 (IntKind.wrap .i64 (i_1 + 1)))) rfl ?_)
         refine Rg_nil ?_
         exact hK23 _ _ ⟨(IntKind.wrap .i64 (i_1 + 1)), _, rfl, ⟨(by repeat (first | with_reducible exact Out.refl _ _ | refine Out.upd ?_ rfl | refine Out.updL ?_ rfl | refine Out.mix' ?_ rfl | exact Out.refl _ _)), rfl, rfl, trivial⟩, ch30, hs51, (inK_wrap .i64 _), jnE1 hsf22 hm⟩
     ·
      intro K37 hK37
      have ch108 := Step.refl (ks [(some b1, Obj.cells [(Value.int .i64 r_.slots), (Value.slice a_r__owners r_.owners.length c_r__owners), (Value.slice a_r__costs r_.costs.length c_r__costs)].toArray 25)] O) w25
      refine Wp_drawR (g0 := []) (m := 23) (fl := []) (TS_inv hs26) rfl (.inl rfl) rfl (by decide +kernel) ?_  -- 6
      refine Dw_eq (Value.pointer (some ⟨b1, 1, none⟩)) (fun ρ109 w110 g hle hi ht => ?_) ?_
      ·
       obtain ⟨-, hst, -⟩ := hle
       refine StepOp_plain (op_fieldAddr ty25 rfl ty22 (by decide) (ht 1 rfl) (rfl : _ = (⟨_, 1, none⟩ : Addr)) ?_)
       exact Goes.same hi rfl
      refine Dw_eq (Value.slice a_r__owners r_.owners.length c_r__owners) (fun ρ112 w113 g hle hi ht => ?_) ?_
      ·
       obtain ⟨-, hst, -⟩ := hle
       have hsn := (Step.nx hi).1
       refine StepOp_plain (op_load (cs := [(Value.int .i64 r_.slots), (Value.slice a_r__owners r_.owners.length c_r__owners), (Value.slice a_r__costs r_.costs.length c_r__costs)]) (i := 0) ty22 hsn (ht 37 rfl) rfl rfl ?_)
       exact Goes.same hi rfl
      refine Dw_eq (Value.int .i64 i_1) (fun ρ115 w116 g hle hi ht => ?_) ?_
      ·
       obtain ⟨-, hst, -⟩ := hle
       refine StepOp_plain (op_move (v := (Value.int .i64 i_1)) (ht 3 rfl) ?_)
       exact Goes.same hi rfl
      replace hm := ck_some hm; obtain ⟨hc121, hm⟩ := hm
      refine Dw_op (VP O [(some b1, Obj.cells [(Value.int .i64 r_.slots), (Value.slice a_r__owners r_.owners.length c_r__owners), (Value.slice a_r__costs r_.costs.length c_r__costs)].toArray 25)] (rInt .i64) (r_.owners.getD i_1.toNat default)) (VP.stab _ _) (fun ρ118 w119 g hle hi ht => ?_) ?_
      ·
       obtain ⟨-, hst, -⟩ := hle
       replace f_r__owners := f_r__owners.step hst
       refine StepOp_plain (op_indexAddr (q := (rInt .i64)) ty22 ty3 (ht 38 rfl) (ht 39 rfl) f_r__owners rfl hc121.1 hc121.2 ?_)
       intro p122 f123
       exact Goes.same hi ⟨_, rfl, f123⟩
      refine Dw_op (VD O [(some b1, Obj.cells [(Value.int .i64 r_.slots), (Value.slice a_r__owners r_.owners.length c_r__owners), (Value.slice a_r__costs r_.costs.length c_r__costs)].toArray 25)] (vI .i64) (r_.owners.getD i_1.toNat default)) (VD.stab _ _) (fun ρ124 w125 g hle hi ht => ?_) ?_
      ·
       obtain ⟨-, hst, -⟩ := hle
       obtain ⟨p127, q128, f129⟩ := ht 40 rfl
       refine StepOp_plain (op_loadP ty3 q128 f129 rfl ?_)
       intro v130 h131
       obtain ⟨rfl, r_y132⟩ := un_int h131
       exact Goes.same hi (show Vr.vd (vI .i64) _ _ _ _ from ⟨rfl, r_y132⟩)
      refine Dw_eq (Value.bool (decide ((r_.owners.getD i_1.toNat default) < 0))) (fun ρ133 w134 g hle hi ht => ?_) ?_
      ·
       obtain ⟨-, hst, -⟩ := hle
       have h136 : Vr.vd (vI .i64) _ _ _ _ := ht 41 rfl
       obtain ⟨q137, r_y138⟩ := h136
       refine StepOp_plain (op_lss q137 rfl ?_)
       exact Goes.same hi rfl
      refine Dw_opB (decide ((r_.owners.getD i_1.toNat default) < 0)) (fun ρ139 w140 g hle hi ht => ?_) (fun hg142 => ?_) (fun hg142 => ?_)
      ·
       obtain ⟨-, hst, -⟩ := hle
       refine StepOp_plain (op_move (v := (Value.bool (decide ((r_.owners.getD i_1.toNat default) < 0)))) (ht 42 rfl) ?_)
       exact Goes.same hi rfl
      ·
       replace hm := bif_t hm hg142
       refine Dw_skip (fun _ _ _ ht => wanted_x rfl (ht 43 rfl) rfl) ?_
       refine Dw_skip (fun _ _ _ ht => wanted_x rfl (ht 43 rfl) rfl) ?_
       refine Dw_skip (fun _ _ _ ht => wanted_x rfl (ht 43 rfl) rfl) ?_
       refine Dw_skip (fun _ _ _ ht => wanted_x rfl (ht 43 rfl) rfl) ?_
       refine Dw_skip (fun _ _ _ ht => wanted_x rfl (ht 43 rfl) rfl) ?_
       refine Dw_skip (fun _ _ _ ht => wanted_x rfl (ht 43 rfl) rfl) ?_
       refine Dw_eq (Value.bool true) (fun ρ143 w144 g hle hi ht => ?_) ?_
       ·
        obtain ⟨-, hst, -⟩ := hle
        refine StepOp_plain (op_pick_t (v := (Value.bool true)) (ht 43 rfl) rfl ?_)
        exact Goes.same hi rfl
       refine Dw_eq (Value.bool true) (fun ρ146 w147 g hle hi ht => ?_) ?_
       ·
        obtain ⟨-, hst, -⟩ := hle
        refine StepOp_plain (op_move (v := (Value.bool true)) (ht 50 rfl) ?_)
        exact Goes.same hi rfl
       refine Dw_skip (fun _ _ _ ht => wanted_x rfl (ht 51 rfl) rfl) ?_
       refine Dw_skip (fun _ _ _ ht => wanted_x rfl (ht 51 rfl) rfl) ?_
       refine Dw_skip (fun _ _ _ ht => wanted_x rfl (ht 51 rfl) rfl) ?_
       refine Dw_skip (fun _ _ _ ht => wanted_x rfl (ht 51 rfl) rfl) ?_
       refine Dw_skip (fun _ _ _ ht => wanted_x rfl (ht 51 rfl) rfl) ?_
       refine Dw_skip (fun _ _ _ ht => wanted_x rfl (ht 51 rfl) rfl) ?_
       refine Dw_skip (fun _ _ _ ht => wanted_x rfl (ht 51 rfl) rfl) ?_
       refine Dw_skip (fun _ _ _ ht => wanted_x rfl (ht 51 rfl) rfl) ?_
       refine Dw_nil fun w153 g154 hl155 hi156 => ?_
       obtain ⟨-, hst157, -⟩ := hl155
       obtain ⟨hs159, p158⟩ := Step.nx hi156
       rintro _ rfl
       rintro _ rfl
       rintro _ rfl
       rintro _ rfl
       rintro _ rfl
       rintro _ rfl
       rintro _ rfl
       rintro _ rfl
       rintro _ rfl
       rintro _ rfl
       rintro _ rfl
       rintro _ rfl
       rintro _ rfl
       rintro _ rfl
       rintro _ rfl
       rintro _ rfl
       rintro _ rfl
       rintro _ rfl
       rintro v160 h161
       replace h161 : Vr.vd (vI .i64) _ _ _ _ := h161
       obtain ⟨rfl, r_y162⟩ := h161
       rintro _ ⟨p163, rfl, f164⟩
       rintro _ rfl
       rintro _ rfl
       rintro _ rfl
       have p165 : Step (ks [(some b1, Obj.cells [(Value.int .i64 r_.slots), (Value.slice a_r__owners r_.owners.length c_r__owners), (Value.slice a_r__costs r_.costs.length c_r__costs)].toArray 25)] O) w25 (ks [(some b1, Obj.cells [(Value.int .i64 r_.slots), (Value.slice a_r__owners r_.owners.length c_r__owners), (Value.slice a_r__costs r_.costs.length c_r__costs)].toArray 25)] O) w153 := hst157.trans p158
       replace f164 := f164.step p158; replace f_r__owners := f_r__owners.step p165; replace f_r__costs := f_r__costs.step p165; replace ch30 := ch30.trans p165; replace ch108 := ch108.trans p165; clear p165 hs26
       refine Rg_opx rfl (asB_ne rfl rfl) rfl ?_
       refine Rg_op rfl (op_pick_t (v := (Value.bool true)) rfl rfl ?_)
       refine Rg_nil ?_
       exact hK37 _ _ ⟨true, _, rfl, ⟨(by repeat (first | with_reducible exact Out.refl _ _ | refine Out.upd ?_ rfl | refine Out.updL ?_ rfl | refine Out.mix' ?_ rfl | exact Out.refl _ _)), rfl, rfl, trivial⟩, ch108, hs159, hm⟩
      ·
       replace hm := bif_f hm hg142
       refine Dw_eq (Value.pointer (some ⟨b1, 1, none⟩)) (fun ρ166 w167 g hle hi ht => ?_) ?_
       ·
        obtain ⟨-, hst, -⟩ := hle
        refine StepOp_g rfl (ht 43 rfl) (op_fieldAddr ty25 rfl ty22 (by decide) (ht 1 rfl) (rfl : _ = (⟨_, 1, none⟩ : Addr)) ?_)
        exact Goes.same hi rfl
       refine Dw_eq (Value.slice a_r__owners r_.owners.length c_r__owners) (fun ρ169 w170 g hle hi ht => ?_) ?_
       ·
        obtain ⟨-, hst, -⟩ := hle
        have hsn := (Step.nx hi).1
        refine StepOp_g rfl (ht 43 rfl) (op_load (cs := [(Value.int .i64 r_.slots), (Value.slice a_r__owners r_.owners.length c_r__owners), (Value.slice a_r__costs r_.costs.length c_r__costs)]) (i := 0) ty22 hsn (ht 44 rfl) rfl rfl ?_)
        exact Goes.same hi rfl
       refine Dw_eq (Value.int .i64 i_1) (fun ρ172 w173 g hle hi ht => ?_) ?_
       ·
        obtain ⟨-, hst, -⟩ := hle
        refine StepOp_g rfl (ht 43 rfl) (op_move (v := (Value.int .i64 i_1)) (ht 3 rfl) ?_)
        exact Goes.same hi rfl
       replace hm := ck_some hm; obtain ⟨hc178, hm⟩ := hm
       refine Dw_op (VP O [(some b1, Obj.cells [(Value.int .i64 r_.slots), (Value.slice a_r__owners r_.owners.length c_r__owners), (Value.slice a_r__costs r_.costs.length c_r__costs)].toArray 25)] (rInt .i64) (r_.owners.getD i_1.toNat default)) (VP.stab _ _) (fun ρ175 w176 g hle hi ht => ?_) ?_
       ·
        obtain ⟨-, hst, -⟩ := hle
        replace f_r__owners := f_r__owners.step hst
        refine StepOp_g rfl (ht 43 rfl) (op_indexAddr (q := (rInt .i64)) ty22 ty3 (ht 45 rfl) (ht 46 rfl) f_r__owners rfl hc178.1 hc178.2 ?_)
        intro p179 f180
        exact Goes.same hi ⟨_, rfl, f180⟩
       refine Dw_op (VD O [(some b1, Obj.cells [(Value.int .i64 r_.slots), (Value.slice a_r__owners r_.owners.length c_r__owners), (Value.slice a_r__costs r_.costs.length c_r__costs)].toArray 25)] (vI .i64) (r_.owners.getD i_1.toNat default)) (VD.stab _ _) (fun ρ181 w182 g hle hi ht => ?_) ?_
       ·
        obtain ⟨-, hst, -⟩ := hle
        obtain ⟨p184, q185, f186⟩ := ht 47 rfl
        refine StepOp_g rfl (ht 43 rfl) (op_loadP ty3 q185 f186 rfl ?_)
        intro v187 h188
        obtain ⟨rfl, r_y189⟩ := un_int h188
        exact Goes.same hi (show Vr.vd (vI .i64) _ _ _ _ from ⟨rfl, r_y189⟩)
       refine Dw_eq (Value.bool (decide (8 ≤ (r_.owners.getD i_1.toNat default)))) (fun ρ190 w191 g hle hi ht => ?_) ?_
       ·
        obtain ⟨-, hst, -⟩ := hle
        have h193 : Vr.vd (vI .i64) _ _ _ _ := ht 48 rfl
        obtain ⟨q194, r_y195⟩ := h193
        refine StepOp_g rfl (ht 43 rfl) (op_geq q194 rfl ?_)
        exact Goes.same hi rfl
       refine Dw_eq (Value.bool (decide (8 ≤ (r_.owners.getD i_1.toNat default)))) (fun ρ196 w197 g hle hi ht => ?_) ?_
       ·
        obtain ⟨-, hst, -⟩ := hle
        refine StepOp_plain (op_pick_f (v := (Value.bool (decide (8 ≤ (r_.owners.getD i_1.toNat default))))) (ht 43 rfl) (ht 49 rfl) ?_)
        exact Goes.same hi rfl
       refine Dw_opB (decide (8 ≤ (r_.owners.getD i_1.toNat default))) (fun ρ199 w200 g hle hi ht => ?_) (fun hg202 => ?_) (fun hg202 => ?_)
       ·
        obtain ⟨-, hst, -⟩ := hle
        refine StepOp_plain (op_move (v := (Value.bool (decide (8 ≤ (r_.owners.getD i_1.toNat default))))) (ht 50 rfl) ?_)
        exact Goes.same hi rfl
       ·
        replace hm := bif_t hm hg202
        refine Dw_skip (fun _ _ _ ht => wanted_x rfl (ht 51 rfl) rfl) ?_
        refine Dw_skip (fun _ _ _ ht => wanted_x rfl (ht 51 rfl) rfl) ?_
        refine Dw_skip (fun _ _ _ ht => wanted_x rfl (ht 51 rfl) rfl) ?_
        refine Dw_skip (fun _ _ _ ht => wanted_x rfl (ht 51 rfl) rfl) ?_
        refine Dw_skip (fun _ _ _ ht => wanted_x rfl (ht 51 rfl) rfl) ?_
        refine Dw_skip (fun _ _ _ ht => wanted_x rfl (ht 51 rfl) rfl) ?_
        refine Dw_skip (fun _ _ _ ht => wanted_x rfl (ht 51 rfl) rfl) ?_
        refine Dw_skip (fun _ _ _ ht => wanted_x rfl (ht 51 rfl) rfl) ?_
        refine Dw_nil fun w207 g208 hl209 hi210 => ?_
        obtain ⟨-, hst211, -⟩ := hl209
        obtain ⟨hs213, p212⟩ := Step.nx hi210
        rintro _ rfl
        rintro _ rfl
        rintro _ rfl
        rintro _ rfl
        rintro _ rfl
        rintro _ rfl
        rintro _ rfl
        rintro _ rfl
        rintro _ rfl
        rintro _ rfl
        rintro _ rfl
        rintro v214 h215
        replace h215 : Vr.vd (vI .i64) _ _ _ _ := h215
        obtain ⟨rfl, r_y216⟩ := h215
        rintro _ ⟨p217, rfl, f218⟩
        rintro _ rfl
        rintro _ rfl
        rintro _ rfl
        rintro _ rfl
        rintro _ rfl
        rintro v219 h220
        replace h220 : Vr.vd (vI .i64) _ _ _ _ := h220
        obtain ⟨rfl, r_y221⟩ := h220
        rintro _ ⟨p222, rfl, f223⟩
        rintro _ rfl
        rintro _ rfl
        rintro _ rfl
        have p224 : Step (ks [(some b1, Obj.cells [(Value.int .i64 r_.slots), (Value.slice a_r__owners r_.owners.length c_r__owners), (Value.slice a_r__costs r_.costs.length c_r__costs)].toArray 25)] O) w25 (ks [(some b1, Obj.cells [(Value.int .i64 r_.slots), (Value.slice a_r__owners r_.owners.length c_r__owners), (Value.slice a_r__costs r_.costs.length c_r__costs)].toArray 25)] O) w207 := hst211.trans p212
        replace f218 := f218.step p212; replace f223 := f223.step p212; replace f_r__owners := f_r__owners.step p224; replace f_r__costs := f_r__costs.step p224; replace ch30 := ch30.trans p224; replace ch108 := ch108.trans p224; clear p224 hs26
        refine Rg_opx rfl (asB_ne rfl rfl) rfl ?_
        refine Rg_op rfl (op_pick_t (v := (Value.bool true)) rfl rfl ?_)
        refine Rg_nil ?_
        exact hK37 _ _ ⟨true, _, rfl, ⟨(by repeat (first | with_reducible exact Out.refl _ _ | refine Out.upd ?_ rfl | refine Out.updL ?_ rfl | refine Out.mix' ?_ rfl | exact Out.refl _ _)), rfl, rfl, trivial⟩, ch108, hs213, hm⟩
       ·
        replace hm := bif_f hm hg202
        refine Dw_eq (Value.pointer (some ⟨b1, 2, none⟩)) (fun ρ225 w226 g hle hi ht => ?_) ?_
        ·
         obtain ⟨-, hst, -⟩ := hle
         refine StepOp_g rfl (ht 51 rfl) (op_fieldAddr ty25 rfl ty23 (by decide) (ht 1 rfl) (rfl : _ = (⟨_, 2, none⟩ : Addr)) ?_)
         exact Goes.same hi rfl
        refine Dw_eq (Value.slice a_r__costs r_.costs.length c_r__costs) (fun ρ228 w229 g hle hi ht => ?_) ?_
        ·
         obtain ⟨-, hst, -⟩ := hle
         have hsn := (Step.nx hi).1
         refine StepOp_g rfl (ht 51 rfl) (op_load (cs := [(Value.int .i64 r_.slots), (Value.slice a_r__owners r_.owners.length c_r__owners), (Value.slice a_r__costs r_.costs.length c_r__costs)]) (i := 0) ty23 hsn (ht 52 rfl) rfl rfl ?_)
         exact Goes.same hi rfl
        refine Dw_eq (Value.int .i64 i_1) (fun ρ231 w232 g hle hi ht => ?_) ?_
        ·
         obtain ⟨-, hst, -⟩ := hle
         refine StepOp_g rfl (ht 51 rfl) (op_move (v := (Value.int .i64 i_1)) (ht 3 rfl) ?_)
         exact Goes.same hi rfl
        replace hm := ck_some hm; obtain ⟨hc237, hm⟩ := hm
        refine Dw_op (VP O [(some b1, Obj.cells [(Value.int .i64 r_.slots), (Value.slice a_r__owners r_.owners.length c_r__owners), (Value.slice a_r__costs r_.costs.length c_r__costs)].toArray 25)] (rSl (rInt .i64)) (r_.costs.getD i_1.toNat default)) (VP.stab _ _) (fun ρ234 w235 g hle hi ht => ?_) ?_
        ·
         obtain ⟨-, hst, -⟩ := hle
         replace f_r__costs := f_r__costs.step hst
         refine StepOp_g rfl (ht 51 rfl) (op_indexAddr (q := (rSl (rInt .i64))) ty23 ty22 (ht 53 rfl) (ht 54 rfl) f_r__costs rfl hc237.1 hc237.2 ?_)
         intro p238 f239
         exact Goes.same hi ⟨_, rfl, f239⟩
        refine Dw_op (VD O [(some b1, Obj.cells [(Value.int .i64 r_.slots), (Value.slice a_r__owners r_.owners.length c_r__owners), (Value.slice a_r__costs r_.costs.length c_r__costs)].toArray 25)] (vC (rSl (rInt .i64))) (r_.costs.getD i_1.toNat default)) (VD.stab _ _) (fun ρ240 w241 g hle hi ht => ?_) ?_
        ·
         obtain ⟨-, hst, -⟩ := hle
         obtain ⟨p243, q244, f245⟩ := ht 55 rfl
         refine StepOp_g rfl (ht 51 rfl) (op_loadP ty22 q244 f245 rfl ?_)
         intro v246 h247
         obtain ⟨a_y248, c_y248, rfl, f_y248⟩ := un_sl h247
         exact Goes.same hi (show Vr.vd (vC (rSl (rInt .i64))) _ _ _ _ from (mkC (mk_sl f_y248)))
        refine Dw_op (VD O [(some b1, Obj.cells [(Value.int .i64 r_.slots), (Value.slice a_r__owners r_.owners.length c_r__owners), (Value.slice a_r__costs r_.costs.length c_r__costs)].toArray 25)] (vI .i64) ((r_.costs.getD i_1.toNat default).length : Int)) (VD.stab _ _) (fun ρ249 w250 g hle hi ht => ?_) ?_
        ·
         obtain ⟨-, hst, -⟩ := hle
         have h252 : Vr.vd (vC (rSl (rInt .i64))) _ _ _ _ := ht 56 rfl
         obtain ⟨a_y254, c_y254, q253, f_y254⟩ := un_sl h252
         refine StepOp_g rfl (ht 51 rfl) (op_len Try.underlying22 q253 ?_)
         exact Goes.same hi (show Vr.vd (vI .i64) _ _ _ _ from ⟨rfl, (inK_len f_y254)⟩)
        refine Dw_eq (Value.pointer (some ⟨b1, 0, none⟩)) (fun ρ255 w256 g hle hi ht => ?_) ?_
        ·
         obtain ⟨-, hst, -⟩ := hle
         refine StepOp_g rfl (ht 51 rfl) (op_fieldAddr ty25 rfl ty3 (by decide) (ht 1 rfl) (rfl : _ = (⟨_, 0, none⟩ : Addr)) ?_)
         exact Goes.same hi rfl
        refine Dw_eq (Value.int .i64 r_.slots) (fun ρ258 w259 g hle hi ht => ?_) ?_
        ·
         obtain ⟨-, hst, -⟩ := hle
         have hsn := (Step.nx hi).1
         refine StepOp_g rfl (ht 51 rfl) (op_load (cs := [(Value.int .i64 r_.slots), (Value.slice a_r__owners r_.owners.length c_r__owners), (Value.slice a_r__costs r_.costs.length c_r__costs)]) (i := 0) ty3 hsn (ht 58 rfl) rfl rfl ?_)
         exact Goes.same hi rfl
        refine Dw_nil fun w265 g266 hl267 hi268 => ?_
        obtain ⟨-, hst269, -⟩ := hl267
        obtain ⟨hs271, p270⟩ := Step.nx hi268
        rintro _ rfl
        rintro _ rfl
        rintro v272 h273
        replace h273 : Vr.vd (vI .i64) _ _ _ _ := h273
        obtain ⟨rfl, r_y274⟩ := h273
        rintro v275 h276
        replace h276 : Vr.vd (vC (rSl (rInt .i64))) _ _ _ _ := h276
        obtain ⟨a_y277, c_y277, rfl, f_y277⟩ := un_sl h276
        rintro _ ⟨p278, rfl, f279⟩
        rintro _ rfl
        rintro _ rfl
        rintro _ rfl
        rintro _ rfl
        rintro _ rfl
        rintro _ rfl
        rintro v280 h281
        replace h281 : Vr.vd (vI .i64) _ _ _ _ := h281
        obtain ⟨rfl, r_y282⟩ := h281
        rintro _ ⟨p283, rfl, f284⟩
        rintro _ rfl
        rintro _ rfl
        rintro _ rfl
        rintro _ rfl
        rintro _ rfl
        rintro v285 h286
        replace h286 : Vr.vd (vI .i64) _ _ _ _ := h286
        obtain ⟨rfl, r_y287⟩ := h286
        rintro _ ⟨p288, rfl, f289⟩
        rintro _ rfl
        rintro _ rfl
        rintro _ rfl
        have p290 : Step (ks [(some b1, Obj.cells [(Value.int .i64 r_.slots), (Value.slice a_r__owners r_.owners.length c_r__owners), (Value.slice a_r__costs r_.costs.length c_r__costs)].toArray 25)] O) w25 (ks [(some b1, Obj.cells [(Value.int .i64 r_.slots), (Value.slice a_r__owners r_.owners.length c_r__owners), (Value.slice a_r__costs r_.costs.length c_r__costs)].toArray 25)] O) w265 := hst269.trans p270
        replace f_y277 := f_y277.step p270; replace f279 := f279.step p270; replace f284 := f284.step p270; replace f289 := f289.step p270; replace f_r__owners := f_r__owners.step p290; replace f_r__costs := f_r__costs.step p290; replace ch30 := ch30.trans p290; replace ch108 := ch108.trans p290; clear p290 hs26
        refine Rg_opg rfl rfl rfl (op_neq rfl rfl ?_)
        refine Rg_op rfl (op_pick_f (v := (Value.bool (decide (((r_.costs.getD i_1.toNat default).length : Int) ≠ r_.slots)))) rfl rfl ?_)
        refine Rg_nil ?_
        exact hK37 _ _ ⟨(decide (((r_.costs.getD i_1.toNat default).length : Int) ≠ r_.slots)), _, rfl, ⟨(by repeat (first | with_reducible exact Out.refl _ _ | refine Out.upd ?_ rfl | refine Out.updL ?_ rfl | refine Out.mix' ?_ rfl | exact Out.refl _ _)), rfl, rfl, trivial⟩, ch108, hs271, hm⟩
    ·
     replace hm := bif_f hm hc32
     refine Wp_exit ?_
     refine Wp_seq ?_
     obtain ⟨hs291, p292⟩ := hs26.sub (bs' := []) (.cons _ List.Sublist.slnil)
     clear f_r__owners f_r__costs
     replace ch30 := ch30.trans p292; clear p292 hs26
     refine Wp_region ?_
     refine Rg_op rfl (op_assign (v := (Value.bool true)) rfl ?_)
     refine Rg_nil ?_
     refine Wp_ret ?_
     have hz := step_all hs291
     refine ⟨_, (show Closes [] _ _ from rfl), [(Value.bool true)], ⟨rfl, trivial⟩, hs291.ext, ?_⟩
     exact Vr.eq (a := vB) (x := true) rfl (Option.some.inj hm)
 ·
  intro K10 hK10
  have ch293 := Step.refl (ks [(some b1, Obj.cells [(Value.int .i64 r_.slots), (Value.slice a_r__owners r_.owners.length c_r__owners), (Value.slice a_r__costs r_.costs.length c_r__costs)].toArray 25)] O) w2
  refine Wp_region ?_
  refine Rg_op rfl (op_fieldAddr ty25 rfl ty3 (by decide) rfl (rfl : _ = (⟨_, 0, none⟩ : Addr)) ?_)
  refine Rg_op rfl (op_load (cs := [(Value.int .i64 r_.slots), (Value.slice a_r__owners r_.owners.length c_r__owners), (Value.slice a_r__costs r_.costs.length c_r__costs)]) (i := 0) ty3 hs4 rfl rfl rfl ?_)
  refine Rg_op rfl (op_lss rfl rfl ?_)
  refine Rg_op rfl (op_move (v := (Value.bool (decide (r_.slots < 1)))) rfl ?_)
  refine Rg_case (fun hg294 => ?_) (fun hg294 => ?_)
  ·
   replace hm := bif_t hm hg294
   iterate 3 refine Rg_opx rfl (asB_ne rfl rfl) rfl ?_
   refine Rg_op rfl (op_pick_t (v := (Value.bool true)) rfl rfl ?_)
   refine Rg_op rfl (op_move (v := (Value.bool true)) rfl ?_)
   iterate 6 refine Rg_opx rfl (asB_ne rfl rfl) rfl ?_
   refine Rg_op rfl (op_pick_t (v := (Value.bool true)) rfl rfl ?_)
   refine Rg_op rfl (op_move (v := (Value.bool true)) rfl ?_)
   iterate 7 refine Rg_opx rfl (asB_ne rfl rfl) rfl ?_
   refine Rg_op rfl (op_pick_t (v := (Value.bool true)) rfl rfl ?_)
   refine Rg_nil ?_
   exact hK10 _ _ ⟨true, _, rfl, ⟨(by repeat (first | with_reducible exact Out.refl _ _ | refine Out.upd ?_ rfl | refine Out.updL ?_ rfl | refine Out.mix' ?_ rfl | exact Out.refl _ _)), rfl, rfl, trivial⟩, ch293, hs4, hm⟩
  ·
   replace hm := bif_f hm hg294
   refine Rg_opg rfl rfl rfl (op_fieldAddr ty25 rfl ty3 (by decide) rfl (rfl : _ = (⟨_, 0, none⟩ : Addr)) ?_)
   refine Rg_opg rfl rfl rfl (op_load (cs := [(Value.int .i64 r_.slots), (Value.slice a_r__owners r_.owners.length c_r__owners), (Value.slice a_r__costs r_.costs.length c_r__costs)]) (i := 0) ty3 hs4 rfl rfl rfl ?_)
   refine Rg_opg rfl rfl rfl (op_gtr rfl rfl ?_)
   refine Rg_op rfl (op_pick_f (v := (Value.bool (decide (8 < r_.slots)))) rfl rfl ?_)
   refine Rg_op rfl (op_move (v := (Value.bool (decide (8 < r_.slots)))) rfl ?_)
   refine Rg_case (fun hg295 => ?_) (fun hg295 => ?_)
   ·
    replace hm := bif_t hm hg295
    iterate 6 refine Rg_opx rfl (asB_ne rfl rfl) rfl ?_
    refine Rg_op rfl (op_pick_t (v := (Value.bool true)) rfl rfl ?_)
    refine Rg_op rfl (op_move (v := (Value.bool true)) rfl ?_)
    iterate 7 refine Rg_opx rfl (asB_ne rfl rfl) rfl ?_
    refine Rg_op rfl (op_pick_t (v := (Value.bool true)) rfl rfl ?_)
    refine Rg_nil ?_
    exact hK10 _ _ ⟨true, _, rfl, ⟨(by repeat (first | with_reducible exact Out.refl _ _ | refine Out.upd ?_ rfl | refine Out.updL ?_ rfl | refine Out.mix' ?_ rfl | exact Out.refl _ _)), rfl, rfl, trivial⟩, ch293, hs4, hm⟩
   ·
    replace hm := bif_f hm hg295
    refine Rg_opg rfl rfl rfl (op_fieldAddr ty25 rfl ty22 (by decide) rfl (rfl : _ = (⟨_, 1, none⟩ : Addr)) ?_)
    refine Rg_opg rfl rfl rfl (op_load (cs := [(Value.int .i64 r_.slots), (Value.slice a_r__owners r_.owners.length c_r__owners), (Value.slice a_r__costs r_.costs.length c_r__costs)]) (i := 0) ty22 hs4 rfl rfl rfl ?_)
    refine Rg_opg rfl rfl rfl (op_len Try.underlying22 rfl ?_)
    have rl296 := inK_len f_r__owners
    refine Rg_opg rfl rfl rfl (op_fieldAddr ty25 rfl ty3 (by decide) rfl (rfl : _ = (⟨_, 0, none⟩ : Addr)) ?_)
    refine Rg_opg rfl rfl rfl (op_load (cs := [(Value.int .i64 r_.slots), (Value.slice a_r__owners r_.owners.length c_r__owners), (Value.slice a_r__costs r_.costs.length c_r__costs)]) (i := 0) ty3 hs4 rfl rfl rfl ?_)
    refine Rg_opg rfl rfl rfl (op_gtr rfl rfl ?_)
    refine Rg_op rfl (op_pick_f (v := (Value.bool (decide (r_.slots < (r_.owners.length : Int))))) rfl rfl ?_)
    refine Rg_op rfl (op_move (v := (Value.bool (decide (r_.slots < (r_.owners.length : Int))))) rfl ?_)
    refine Rg_case (fun hg297 => ?_) (fun hg297 => ?_)
    ·
     replace hm := bif_t hm hg297
     iterate 7 refine Rg_opx rfl (asB_ne rfl rfl) rfl ?_
     refine Rg_op rfl (op_pick_t (v := (Value.bool true)) rfl rfl ?_)
     refine Rg_nil ?_
     exact hK10 _ _ ⟨true, _, rfl, ⟨(by repeat (first | with_reducible exact Out.refl _ _ | refine Out.upd ?_ rfl | refine Out.updL ?_ rfl | refine Out.mix' ?_ rfl | exact Out.refl _ _)), rfl, rfl, trivial⟩, ch293, hs4, hm⟩
    ·
     replace hm := bif_f hm hg297
     refine Rg_opg rfl rfl rfl (op_fieldAddr ty25 rfl ty23 (by decide) rfl (rfl : _ = (⟨_, 2, none⟩ : Addr)) ?_)
     refine Rg_opg rfl rfl rfl (op_load (cs := [(Value.int .i64 r_.slots), (Value.slice a_r__owners r_.owners.length c_r__owners), (Value.slice a_r__costs r_.costs.length c_r__costs)]) (i := 0) ty23 hs4 rfl rfl rfl ?_)
     refine Rg_opg rfl rfl rfl (op_len Try.underlying23 rfl ?_)
     have rl298 := inK_len f_r__costs
     refine Rg_opg rfl rfl rfl (op_fieldAddr ty25 rfl ty22 (by decide) rfl (rfl : _ = (⟨_, 1, none⟩ : Addr)) ?_)
     refine Rg_opg rfl rfl rfl (op_load (cs := [(Value.int .i64 r_.slots), (Value.slice a_r__owners r_.owners.length c_r__owners), (Value.slice a_r__costs r_.costs.length c_r__costs)]) (i := 0) ty22 hs4 rfl rfl rfl ?_)
     refine Rg_opg rfl rfl rfl (op_len Try.underlying22 rfl ?_)
     have rl299 := inK_len f_r__owners
     refine Rg_opg rfl rfl rfl (op_neq rfl rfl ?_)
     refine Rg_op rfl (op_pick_f (v := (Value.bool (decide ((r_.costs.length : Int) ≠ (r_.owners.length : Int))))) rfl rfl ?_)
     refine Rg_nil ?_
     exact hK10 _ _ ⟨(decide ((r_.costs.length : Int) ≠ (r_.owners.length : Int))), _, rfl, ⟨(by repeat (first | with_reducible exact Out.refl _ _ | refine Out.upd ?_ rfl | refine Out.updL ?_ rfl | refine Out.mix' ?_ rfl | exact Out.refl _ _)), rfl, rfl, trivial⟩, ch293, hs4, hm⟩

end Go.Fx



set_option linter.unusedVariables false
set_option linter.unusedSimpArgs false
set_option maxRecDepth 100000
set_option maxHeartbeats 0
namespace Go.Fx
open Go Go.RowKit Go.Proofs
def m29_overflightref37_Few_B0 (r_ : XRound) (sf21 : Int → Option Bool) (i_1 : Int) : Option Bool :=
 bif (decide (i_1 < (r_.costs.length : Int))) then
  ck ((0 : Int) ≤ i_1 ∧ i_1 < (r_.costs.length : Int)) <|
  bif (decide (20 < ((r_.costs.getD i_1.toNat default).length : Int))) then
   some false
  else
   sf21 (IntKind.wrap .i64 (i_1 + 1))
 else
  (m54_overflightref37_Valid r_).bind fun valid_1 =>
  bif (!valid_1) then
   some true
  else
   some (decide ((r_.owners.length : Int) ≤ 5))

def m29_overflightref37_Few (r_ : XRound) : Option Bool :=
 jn (fun (v_1 : Bool) =>
  bif v_1 then
   some false
  else
   loop1 (m29_overflightref37_Few_B0 r_) (((r_.costs.length : Int) - 0).toNat + 1) 0)
 (fun k8 =>
  bif (decide (12 < (r_.owners.length : Int))) then
   k8 true
  else
   k8 (decide (12 < (r_.costs.length : Int))))

theorem c29_overflightref37_Few {w : World} {O : List Nat} {r_ : XRound} {a_r__owners : Option Addr} {c_r__owners : Nat} {a_r__costs : Option Addr} {c_r__costs : Nat} (hO : ∀ k ∈ O, k < w.heap.size) (r_r__slots : InK .i64 r_.slots) (f_r__owners : SlR (rInt .i64) w O a_r__owners c_r__owners r_.owners) (f_r__costs : SlR (rSl (rInt .i64)) w O a_r__costs c_r__costs r_.costs) {x : Bool} (hm : m29_overflightref37_Few r_ = some x) :
  Ok Try.prog 29 [(Value.agg [(Value.int .i64 r_.slots), (Value.slice a_r__owners r_.owners.length c_r__owners), (Value.slice a_r__costs r_.costs.length c_r__costs)].toArray)] w O vB x := by
 unfold m29_overflightref37_Few at hm
 refine Fn_of_Wp (n := 37) (xs := [.tmp 2]) Try.func29 rfl Try.ntmps29 Try.results29 rfl ?_
 have hs := St.start hO
 refine Wp_seq ?_
 refine Wp_region ?_
 refine Rg_op rfl (op_box (cs := [(Value.int .i64 r_.slots), (Value.slice a_r__owners r_.owners.length c_r__owners), (Value.slice a_r__costs r_.costs.length c_r__costs)]) hs rfl rfl ?_)
 intro b1 w2 _ p3 hs4
 replace f_r__owners := f_r__owners.step p3; replace f_r__costs := f_r__costs.step p3; clear p3
 refine Rg_op rfl (op_assign (v := (Value.bool false)) rfl ?_)
 refine Rg_nil ?_
 refine Wp_seq ?_
 refine Wp_reset [] [(1, (Value.pointer (some ⟨b1, 0, none⟩)))] rfl ⟨rfl, trivial⟩ fun ξ6 => ?_
 replace hm := jn_elim hm; obtain ⟨k8, hk9, hm⟩ := hm
 refine Wp_seqJ [4, 5, 6, 7, 8, 9, 10, 11, 12, 13] (fun fr w' => ∃ (v_1 : Bool) (Ebs : Ents), Ebs = [(some b1, Obj.cells [(Value.int .i64 r_.slots), (Value.slice a_r__owners r_.owners.length c_r__owners), (Value.slice a_r__costs r_.costs.length c_r__costs)].toArray 25)] ∧ fr [] [(13, (Value.bool v_1))] ∧ Step (ks [(some b1, Obj.cells [(Value.int .i64 r_.slots), (Value.slice a_r__owners r_.owners.length c_r__owners), (Value.slice a_r__costs r_.costs.length c_r__costs)].toArray 25)] O) w2 (ks Ebs O) w' ∧ St ⟨w, [], []⟩ O w' Ebs ∧ k8 v_1 = some x) ?_ ?_
 ·
  rintro ρ15 w11 ⟨v_1, Ebs, hEbs, hfr14, hst13, hs12, hm⟩
  replace hm := jnE1 hk9 hm
  subst hEbs; rw [hfr14.eq]; clear hfr14
  replace f_r__owners := f_r__owners.step hst13; replace f_r__costs := f_r__costs.step hst13; clear hst13 hs4
  refine Wp_cond rfl (fun hc16 => ?_) (fun hc16 => ?_)
  ·
   replace hm := bif_t hm hc16
   refine Wp_seq ?_
   obtain ⟨hs17, p18⟩ := hs12.sub (bs' := []) (.cons _ List.Sublist.slnil)
   clear f_r__owners f_r__costs
   clear p18 hs12
   refine Wp_region ?_
   refine Rg_op rfl (op_assign (v := (Value.bool false)) rfl ?_)
   refine Rg_nil ?_
   refine Wp_ret ?_
   have hz := step_all hs17
   refine ⟨_, (show Closes [] _ _ from rfl), [(Value.bool false)], ⟨rfl, trivial⟩, hs17.ext, ?_⟩
   exact Vr.eq (a := vB) (x := false) rfl (Option.some.inj hm)
  ·
   replace hm := bif_f hm hc16
   refine Wp_skip ?_
   refine Wp_seq ?_
   refine Wp_seq ?_
   refine Wp_region ?_
   refine Rg_op rfl (op_assign (v := (Value.int .i64 0)) rfl ?_)
   refine Rg_nil ?_
   refine Wp_block ?_
   refine Wp_reset [] [(1, (Value.pointer (some ⟨b1, 0, none⟩))), (3, (Value.int .i64 0))] rfl ⟨rfl, rfl, trivial⟩ fun ξ20 => ?_
   refine Wp_loopM [2, 3, 14, 15, 16, 17, 18, 19, 20, 21, 22, 23, 24, 25, 26, 27] (fun m fr w' => ∃ (i_1 : Int) (Ebs : Ents), Ebs = [(some b1, Obj.cells [(Value.int .i64 r_.slots), (Value.slice a_r__owners r_.owners.length c_r__owners), (Value.slice a_r__costs r_.costs.length c_r__costs)].toArray 25)] ∧ fr [] [(3, (Value.int .i64 i_1))] ∧ Step (ks [(some b1, Obj.cells [(Value.int .i64 r_.slots), (Value.slice a_r__owners r_.owners.length c_r__owners), (Value.slice a_r__costs r_.costs.length c_r__costs)].toArray 25)] O) w11 (ks Ebs O) w' ∧ St ⟨w, [], []⟩ O w' Ebs ∧ InK .i64 i_1 ∧ loop1 (m29_overflightref37_Few_B0 r_) m i_1 = some x) (((r_.costs.length : Int) - 0).toNat + 1) ⟨0, _, rfl, ⟨Out.refl _ _, rfl, rfl, trivial⟩, Step.refl _ _, hs12, (show InK .i64 0 from by decide), hm⟩ ?_ ?_
   · rintro _ _ ⟨_, _, _, _, _, _, _, hm⟩; exact loop1_z hm
   ·
    rintro m24 K23 hK23 ρ29 w25 ⟨i_1, Ebs, hEbs, hfr28, hst27, hs26, r_y19, hm⟩
    obtain ⟨sf21, hsf22, hm⟩ := loop1_s hm; unfold m29_overflightref37_Few_B0 at hm
    subst hEbs; rw [hfr28.eq]; clear hfr28
    replace f_r__owners := f_r__owners.step hst27; replace f_r__costs := f_r__costs.step hst27
    have ch30 := hst27
    refine Wp_seq ?_
    refine Wp_seq ?_
    refine Wp_region ?_
    refine Rg_op rfl (op_move (v := (Value.int .i64 i_1)) rfl ?_)
    refine Rg_op rfl (op_fieldAddr ty25 rfl ty23 (by decide) rfl (rfl : _ = (⟨_, 2, none⟩ : Addr)) ?_)
    refine Rg_op rfl (op_load (cs := [(Value.int .i64 r_.slots), (Value.slice a_r__owners r_.owners.length c_r__owners), (Value.slice a_r__costs r_.costs.length c_r__costs)]) (i := 0) ty23 hs26 rfl rfl rfl ?_)
    refine Rg_op rfl (op_len Try.underlying23 rfl ?_)
    have rl31 := inK_len f_r__costs
    refine Rg_op rfl (op_lss rfl rfl ?_)
    refine Rg_nil ?_
    refine Wp_cond rfl (fun hc32 => ?_) (fun hc32 => ?_)
    ·
     replace hm := bif_t hm hc32
     refine Wp_skip ?_
     refine Wp_seq ?_
     refine Wp_block ?_
     refine Wp_seq ?_
     refine Wp_region ?_
     refine Rg_op rfl (op_fieldAddr ty25 rfl ty23 (by decide) rfl (rfl : _ = (⟨_, 2, none⟩ : Addr)) ?_)
     refine Rg_op rfl (op_load (cs := [(Value.int .i64 r_.slots), (Value.slice a_r__owners r_.owners.length c_r__owners), (Value.slice a_r__costs r_.costs.length c_r__costs)]) (i := 0) ty23 hs26 rfl rfl rfl ?_)
     refine Rg_op rfl (op_move (v := (Value.int .i64 i_1)) rfl ?_)
     replace hm := ck_some hm; obtain ⟨hc33, hm⟩ := hm
     refine Rg_op rfl (op_indexAddr (q := (rSl (rInt .i64))) ty23 ty22 rfl rfl f_r__costs rfl hc33.1 hc33.2 ?_)
     intro p34 f35
     refine Rg_op rfl (op_loadP ty22 rfl f35 rfl ?_)
     intro v36 h37
     obtain ⟨a_y38, c_y38, rfl, f_y38⟩ := un_sl h37
     refine Rg_op rfl (op_len Try.underlying22 rfl ?_)
     have rl39 := inK_len f_y38
     refine Rg_op rfl (op_gtr rfl rfl ?_)
     refine Rg_nil ?_
     refine Wp_cond rfl (fun hc40 => ?_) (fun hc40 => ?_)
     ·
      replace hm := bif_t hm hc40
      refine Wp_seq ?_
      clear f35 f_y38
      refine Wp_region ?_
      refine Rg_op rfl (op_assign (v := (Value.bool false)) rfl ?_)
      refine Rg_nil ?_
      refine Wp_ret ?_
      have hz := step_all hs26
      replace f_r__owners := f_r__owners.step hz; replace f_r__costs := f_r__costs.step hz
      refine ⟨_, (show Closes [] _ _ from rfl), [(Value.bool false)], ⟨rfl, trivial⟩, hs26.ext, ?_⟩
      exact Vr.eq (a := vB) (x := false) rfl (Option.some.inj hm)
     ·
      replace hm := bif_f hm hc40
      refine Wp_skip ?_
      clear f35 f_y38
      refine Wp_region ?_
      refine Rg_op rfl (op_move (v := (Value.int .i64 i_1)) rfl ?_)
      refine Rg_op rfl (op_addw rfl rfl ?_)
      refine Rg_op rfl (op_assign (v := (Value.int .i64 (IntKind.wrap .i64 (i_1 + 1)))) rfl ?_)
      refine Rg_nil ?_
      exact hK23 _ _ ⟨(IntKind.wrap .i64 (i_1 + 1)), _, rfl, ⟨(by repeat (first | with_reducible exact Out.refl _ _ | refine Out.upd ?_ rfl | refine Out.updL ?_ rfl | refine Out.mix' ?_ rfl | exact Out.refl _ _)), rfl, rfl, trivial⟩, ch30, hs26, (inK_wrap .i64 _), jnE1 hsf22 hm⟩
    ·
     replace hm := bif_f hm hc32
     refine Wp_exit ?_
     refine Wp_seq ?_
     refine Wp_region ?_
     refine Rg_op rfl (op_loadA (cs := [(Value.int .i64 r_.slots), (Value.slice a_r__owners r_.owners.length c_r__owners), (Value.slice a_r__costs r_.costs.length c_r__costs)]) (vs := [(Value.int .i64 r_.slots), (Value.slice a_r__owners r_.owners.length c_r__owners), (Value.slice a_r__costs r_.costs.length c_r__costs)]) (i := 0) ty25 hs26 rfl rfl rfl rfl ?_)
     replace hm := bd hm; obtain ⟨valid_1, hv41, hm⟩ := hm
     refine Rg_op rfl (op_call Try.call54 (c54_overflightref37_Valid (r_ := r_) hs26.ltw r_r__slots f_r__owners f_r__costs hv41) rfl ?_)
     rintro v42 w43 ⟨hx44, h45⟩
     have hs46 := hs26.call hx44
     have p47 := Step.ext (O := ks [(some b1, Obj.cells [(Value.int .i64 r_.slots), (Value.slice a_r__owners r_.owners.length c_r__owners), (Value.slice a_r__costs r_.costs.length c_r__costs)].toArray 25)] O) hx44
     clear hx44
     replace f_r__owners := f_r__owners.step p47; replace f_r__costs := f_r__costs.step p47; replace ch30 := ch30.trans p47; clear p47 hs26
     obtain rfl := h45
     refine Rg_op rfl (op_not rfl ?_)
     refine Rg_op rfl (op_move (v := (Value.bool (!valid_1))) rfl ?_)
     refine Rg_case (fun hg49 => ?_) (fun hg49 => ?_)
     ·
      replace hm := bif_t hm hg49
      iterate 4 refine Rg_opx rfl (asB_ne rfl rfl) rfl ?_
      refine Rg_op rfl (op_pick_t (v := (Value.bool true)) rfl rfl ?_)
      refine Rg_op rfl (op_assign (v := (Value.bool true)) rfl ?_)
      refine Rg_nil ?_
      refine Wp_ret ?_
      have hz := step_all hs46
      replace f_r__owners := f_r__owners.step hz; replace f_r__costs := f_r__costs.step hz
      refine ⟨_, (show Closes [] _ _ from rfl), [(Value.bool true)], ⟨rfl, trivial⟩, hs46.ext, ?_⟩
      exact Vr.eq (a := vB) (x := true) rfl (Option.some.inj hm)
     ·
      replace hm := bif_f hm hg49
      refine Rg_opg rfl rfl rfl (op_fieldAddr ty25 rfl ty22 (by decide) rfl (rfl : _ = (⟨_, 1, none⟩ : Addr)) ?_)
      refine Rg_opg rfl rfl rfl (op_load (cs := [(Value.int .i64 r_.slots), (Value.slice a_r__owners r_.owners.length c_r__owners), (Value.slice a_r__costs r_.costs.length c_r__costs)]) (i := 0) ty22 hs46 rfl rfl rfl ?_)
      refine Rg_opg rfl rfl rfl (op_len Try.underlying22 rfl ?_)
      have rl50 := inK_len f_r__owners
      refine Rg_opg rfl rfl rfl (op_leq rfl rfl ?_)
      refine Rg_op rfl (op_pick_f (v := (Value.bool (decide ((r_.owners.length : Int) ≤ 5)))) rfl rfl ?_)
      refine Rg_op rfl (op_assign (v := (Value.bool (decide ((r_.owners.length : Int) ≤ 5)))) rfl ?_)
      refine Rg_nil ?_
      refine Wp_ret ?_
      have hz := step_all hs46
      replace f_r__owners := f_r__owners.step hz; replace f_r__costs := f_r__costs.step hz
      refine ⟨_, (show Closes [] _ _ from rfl), [(Value.bool (decide ((r_.owners.length : Int) ≤ 5)))], ⟨rfl, trivial⟩, hs46.ext, ?_⟩
      exact Vr.eq (a := vB) (x := (decide ((r_.owners.length : Int) ≤ 5))) rfl (Option.some.inj hm)
 ·
  intro K10 hK10
  have ch51 := Step.refl (ks [(some b1, Obj.cells [(Value.int .i64 r_.slots), (Value.slice a_r__owners r_.owners.length c_r__owners), (Value.slice a_r__costs r_.costs.length c_r__costs)].toArray 25)] O) w2
  refine Wp_region ?_
  refine Rg_op rfl (op_fieldAddr ty25 rfl ty22 (by decide) rfl (rfl : _ = (⟨_, 1, none⟩ : Addr)) ?_)
  refine Rg_op rfl (op_load (cs := [(Value.int .i64 r_.slots), (Value.slice a_r__owners r_.owners.length c_r__owners), (Value.slice a_r__costs r_.costs.length c_r__costs)]) (i := 0) ty22 hs4 rfl rfl rfl ?_)
  refine Rg_op rfl (op_len Try.underlying22 rfl ?_)
  have rl52 := inK_len f_r__owners
  refine Rg_op rfl (op_gtr rfl rfl ?_)
  refine Rg_op rfl (op_move (v := (Value.bool (decide (12 < (r_.owners.length : Int))))) rfl ?_)
  refine Rg_case (fun hg53 => ?_) (fun hg53 => ?_)
  ·
   replace hm := bif_t hm hg53
   iterate 4 refine Rg_opx rfl (asB_ne rfl rfl) rfl ?_
   refine Rg_op rfl (op_pick_t (v := (Value.bool true)) rfl rfl ?_)
   refine Rg_nil ?_
   exact hK10 _ _ ⟨true, _, rfl, ⟨(by repeat (first | with_reducible exact Out.refl _ _ | refine Out.upd ?_ rfl | refine Out.updL ?_ rfl | refine Out.mix' ?_ rfl | exact Out.refl _ _)), rfl, rfl, trivial⟩, ch51, hs4, hm⟩
  ·
   replace hm := bif_f hm hg53
   refine Rg_opg rfl rfl rfl (op_fieldAddr ty25 rfl ty23 (by decide) rfl (rfl : _ = (⟨_, 2, none⟩ : Addr)) ?_)
   refine Rg_opg rfl rfl rfl (op_load (cs := [(Value.int .i64 r_.slots), (Value.slice a_r__owners r_.owners.length c_r__owners), (Value.slice a_r__costs r_.costs.length c_r__costs)]) (i := 0) ty23 hs4 rfl rfl rfl ?_)
   refine Rg_opg rfl rfl rfl (op_len Try.underlying23 rfl ?_)
   have rl54 := inK_len f_r__costs
   refine Rg_opg rfl rfl rfl (op_gtr rfl rfl ?_)
   refine Rg_op rfl (op_pick_f (v := (Value.bool (decide (12 < (r_.costs.length : Int))))) rfl rfl ?_)
   refine Rg_nil ?_
   exact hK10 _ _ ⟨(decide (12 < (r_.costs.length : Int))), _, rfl, ⟨(by repeat (first | with_reducible exact Out.refl _ _ | refine Out.upd ?_ rfl | refine Out.updL ?_ rfl | refine Out.mix' ?_ rfl | exact Out.refl _ _)), rfl, rfl, trivial⟩, ch51, hs4, hm⟩

end Go.Fx



set_option linter.unusedVariables false
set_option linter.unusedSimpArgs false
set_option maxRecDepth 100000
set_option maxHeartbeats 0
namespace Go.Fx
open Go Go.RowKit Go.Proofs
def m11_overflightref38_Few (r_ : XRound) : Option Bool :=
 (m29_overflightref37_Few r_).bind fun few_1 =>
 bif few_1 then
  bif (decide ((r_.owners.length : Int) ≤ 5)) then
   some (decide (r_.slots ≤ 6))
  else
   some false
 else
  some false

theorem c11_overflightref38_Few {w : World} {O : List Nat} {r_ : XRound} {a_r__owners : Option Addr} {c_r__owners : Nat} {a_r__costs : Option Addr} {c_r__costs : Nat} (hO : ∀ k ∈ O, k < w.heap.size) (r_r__slots : InK .i64 r_.slots) (f_r__owners : SlR (rInt .i64) w O a_r__owners c_r__owners r_.owners) (f_r__costs : SlR (rSl (rInt .i64)) w O a_r__costs c_r__costs r_.costs) {x : Bool} (hm : m11_overflightref38_Few r_ = some x) :
  Ok Try.prog 11 [(Value.agg [(Value.int .i64 r_.slots), (Value.slice a_r__owners r_.owners.length c_r__owners), (Value.slice a_r__costs r_.costs.length c_r__costs)].toArray)] w O vB x := by
 unfold m11_overflightref38_Few at hm
 refine Fn_of_Wp (n := 16) (xs := [.tmp 2]) Try.func11 rfl Try.ntmps11 Try.results11 rfl ?_
 have hs := St.start hO
 refine Wp_seq ?_
 refine Wp_region ?_
 refine Rg_op rfl (op_box (cs := [(Value.int .i64 r_.slots), (Value.slice a_r__owners r_.owners.length c_r__owners), (Value.slice a_r__costs r_.costs.length c_r__costs)]) hs rfl rfl ?_)
 intro b1 w2 _ p3 hs4
 replace f_r__owners := f_r__owners.step p3; replace f_r__costs := f_r__costs.step p3; clear p3
 refine Rg_op rfl (op_assign (v := (Value.bool false)) rfl ?_)
 refine Rg_nil ?_
 refine Wp_seq ?_
 refine Wp_region ?_
 refine Rg_op rfl (op_loadA (cs := [(Value.int .i64 r_.slots), (Value.slice a_r__owners r_.owners.length c_r__owners), (Value.slice a_r__costs r_.costs.length c_r__costs)]) (vs := [(Value.int .i64 r_.slots), (Value.slice a_r__owners r_.owners.length c_r__owners), (Value.slice a_r__costs r_.costs.length c_r__costs)]) (i := 0) ty25 hs4 rfl rfl rfl rfl ?_)
 replace hm := bd hm; obtain ⟨few_1, hv6, hm⟩ := hm
 refine Rg_op rfl (op_call Try.call29 (c29_overflightref37_Few (r_ := r_) hs4.ltw r_r__slots f_r__owners f_r__costs hv6) rfl ?_)
 rintro v7 w8 ⟨hx9, h10⟩
 have hs11 := hs4.call hx9
 have p12 := Step.ext (O := ks [(some b1, Obj.cells [(Value.int .i64 r_.slots), (Value.slice a_r__owners r_.owners.length c_r__owners), (Value.slice a_r__costs r_.costs.length c_r__costs)].toArray 25)] O) hx9
 clear hx9
 replace f_r__owners := f_r__owners.step p12; replace f_r__costs := f_r__costs.step p12; clear p12 hs4
 obtain rfl := h10
 refine Rg_op rfl (op_move (v := (Value.bool few_1)) rfl ?_)
 refine Rg_case (fun hg14 => ?_) (fun hg14 => ?_)
 ·
  replace hm := bif_t hm hg14
  refine Rg_opg rfl rfl rfl (op_fieldAddr ty25 rfl ty22 (by decide) rfl (rfl : _ = (⟨_, 1, none⟩ : Addr)) ?_)
  refine Rg_opg rfl rfl rfl (op_load (cs := [(Value.int .i64 r_.slots), (Value.slice a_r__owners r_.owners.length c_r__owners), (Value.slice a_r__costs r_.costs.length c_r__costs)]) (i := 0) ty22 hs11 rfl rfl rfl ?_)
  refine Rg_opg rfl rfl rfl (op_len Try.underlying22 rfl ?_)
  have rl15 := inK_len f_r__owners
  refine Rg_opg rfl rfl rfl (op_leq rfl rfl ?_)
  refine Rg_op rfl (op_pick_t (v := (Value.bool (decide ((r_.owners.length : Int) ≤ 5)))) rfl rfl ?_)
  refine Rg_op rfl (op_move (v := (Value.bool (decide ((r_.owners.length : Int) ≤ 5)))) rfl ?_)
  refine Rg_case (fun hg16 => ?_) (fun hg16 => ?_)
  ·
   replace hm := bif_t hm hg16
   refine Rg_opg rfl rfl rfl (op_fieldAddr ty25 rfl ty3 (by decide) rfl (rfl : _ = (⟨_, 0, none⟩ : Addr)) ?_)
   refine Rg_opg rfl rfl rfl (op_load (cs := [(Value.int .i64 r_.slots), (Value.slice a_r__owners r_.owners.length c_r__owners), (Value.slice a_r__costs r_.costs.length c_r__costs)]) (i := 0) ty3 hs11 rfl rfl rfl ?_)
   refine Rg_opg rfl rfl rfl (op_leq rfl rfl ?_)
   refine Rg_op rfl (op_pick_t (v := (Value.bool (decide (r_.slots ≤ 6)))) rfl rfl ?_)
   refine Rg_op rfl (op_assign (v := (Value.bool (decide (r_.slots ≤ 6)))) rfl ?_)
   refine Rg_nil ?_
   refine Wp_ret ?_
   have hz := step_all hs11
   replace f_r__owners := f_r__owners.step hz; replace f_r__costs := f_r__costs.step hz
   refine ⟨_, (show Closes [] _ _ from rfl), [(Value.bool (decide (r_.slots ≤ 6)))], ⟨rfl, trivial⟩, hs11.ext, ?_⟩
   exact Vr.eq (a := vB) (x := (decide (r_.slots ≤ 6))) rfl (Option.some.inj hm)
  ·
   replace hm := bif_f hm hg16
   iterate 3 refine Rg_opx rfl (asB_ne rfl rfl) rfl ?_
   refine Rg_op rfl (op_pick_f (v := (Value.bool false)) rfl rfl ?_)
   refine Rg_op rfl (op_assign (v := (Value.bool false)) rfl ?_)
   refine Rg_nil ?_
   refine Wp_ret ?_
   have hz := step_all hs11
   replace f_r__owners := f_r__owners.step hz; replace f_r__costs := f_r__costs.step hz
   refine ⟨_, (show Closes [] _ _ from rfl), [(Value.bool false)], ⟨rfl, trivial⟩, hs11.ext, ?_⟩
   exact Vr.eq (a := vB) (x := false) rfl (Option.some.inj hm)
 ·
  replace hm := bif_f hm hg14
  iterate 4 refine Rg_opx rfl (asB_ne rfl rfl) rfl ?_
  refine Rg_op rfl (op_pick_f (v := (Value.bool false)) rfl rfl ?_)
  refine Rg_op rfl (op_move (v := (Value.bool false)) rfl ?_)
  iterate 3 refine Rg_opx rfl (asB_ne rfl rfl) rfl ?_
  refine Rg_op rfl (op_pick_f (v := (Value.bool false)) rfl rfl ?_)
  refine Rg_op rfl (op_assign (v := (Value.bool false)) rfl ?_)
  refine Rg_nil ?_
  refine Wp_ret ?_
  have hz := step_all hs11
  replace f_r__owners := f_r__owners.step hz; replace f_r__costs := f_r__costs.step hz
  refine ⟨_, (show Closes [] _ _ from rfl), [(Value.bool false)], ⟨rfl, trivial⟩, hs11.ext, ?_⟩
  exact Vr.eq (a := vB) (x := false) rfl (Option.some.inj hm)

end Go.Fx



set_option linter.unusedVariables false
set_option linter.unusedSimpArgs false
set_option maxRecDepth 100000
set_option maxHeartbeats 0
namespace Go.Fx
open Go Go.RowKit Go.Proofs
def m6_overflightlaw38_ClearingSaves_B1 (value_1 : (List Int) × Int) (value_2 : (List Int) × Int) (costs_1 : (List Int) × Int) (sf139 : Int → Int → Option Bool) (sum_1 : Int) (v_3 : Int) : Option Bool :=
 bif (decide (v_3 < (costs_1.1.length : Int))) then
  ck ((0 : Int) ≤ v_3 ∧ v_3 < (costs_1.1.length : Int)) <|
  sf139 (IntKind.wrap .i64 (sum_1 + (costs_1.1.getD v_3.toNat default))) (IntKind.wrap .i64 (v_3 + 1))
 else
  ck ((0 : Int) ≤ 0 ∧ 0 < (value_1.1.length : Int)) <|
  bif (decide (sum_1 = (value_1.1.getD 0 default))) then
   ck ((0 : Int) ≤ 0 ∧ 0 < (value_1.1.length : Int)) <|
   ck ((0 : Int) ≤ 0 ∧ 0 < (value_2.1.length : Int)) <|
   bif (decide ((value_1.1.getD 0 default) < (value_2.1.getD 0 default))) then
    some true
   else
    ck ((0 : Int) ≤ 1 ∧ 1 < (value_1.1.length : Int)) <|
    some (decide ((value_1.1.getD 1 default) = 0))
  else
   some false

def m6_overflightlaw38_ClearingSaves_B0 (r_ : XRound) (best_1 : (List Int) × Int) (sf49 : (List Int) → Int → Option Bool) (own_1 : List Int) (v_1 : Int) : Option Bool :=
 bif (decide (v_1 < (r_.owners.length : Int))) then
  ck ((own_1.length + [v_1].length) * 8 ≤ 140737488355328) <|
  sf49 (own_1 ++ [v_1]) (IntKind.wrap .i64 (v_1 + 1))
 else
  (m12_clearing_Value r_ best_1.1).bind fun value_1 =>
  (m12_clearing_Value r_ own_1).bind fun value_2 =>
  (m22_coalition_Costs r_ best_1.1).bind fun costs_1 =>
  jn (fun (v_2 : Bool) =>
   bif v_2 then
    some false
   else
    loop2 (m6_overflightlaw38_ClearingSaves_B1 value_1 value_2 costs_1) (((costs_1.1.length : Int) - 0).toNat + 1) 0 0)
  (fun k122 =>
   bif (decide (value_1.2 ≠ 0)) then
    k122 true
   else
    bif (decide (value_2.2 ≠ 0)) then
     k122 true
    else
     bif (decide (costs_1.2 ≠ 0)) then
      k122 true
     else
      ck ((0 : Int) ≤ 0 ∧ 0 < (value_1.1.length : Int)) <|
      ck ((0 : Int) ≤ 0 ∧ 0 < (value_2.1.length : Int)) <|
      k122 (decide ((value_2.1.getD 0 default) < (value_1.1.getD 0 default))))

def m6_overflightlaw38_ClearingSaves (r_ : XRound) : Option Bool :=
 (m10_overflightlaw38_sane).bind fun sane_1 =>
 bif (!sane_1) then
  some false
 else
  (m11_overflightref38_Few r_).bind fun few_1 =>
  bif (!few_1) then
   some true
  else
   (m18_clearing_Best r_).bind fun best_1 =>
   bif (decide (best_1.2 ≠ 0)) then
    some true
   else
    loop2 (m6_overflightlaw38_ClearingSaves_B0 r_ best_1) (((r_.owners.length : Int) - 0).toNat + 1) ([] : List Int) 0

theorem c6_overflightlaw38_ClearingSaves {w : World} {O : List Nat} {r_ : XRound} {a_r__owners : Option Addr} {c_r__owners : Nat} {a_r__costs : Option Addr} {c_r__costs : Nat} (hO : ∀ k ∈ O, k < w.heap.size) (r_r__slots : InK .i64 r_.slots) (f_r__owners : SlR (rInt .i64) w O a_r__owners c_r__owners r_.owners) (f_r__costs : SlR (rSl (rInt .i64)) w O a_r__costs c_r__costs r_.costs) {x : Bool} (hm : m6_overflightlaw38_ClearingSaves r_ = some x) :
  Ok Try.prog 6 [(Value.agg [(Value.int .i64 r_.slots), (Value.slice a_r__owners r_.owners.length c_r__owners), (Value.slice a_r__costs r_.costs.length c_r__costs)].toArray)] w O vB x := by
 unfold m6_overflightlaw38_ClearingSaves at hm
 refine Fn_of_Wp (n := 106) (xs := [.tmp 2]) Try.func6 rfl Try.ntmps6 Try.results6 rfl ?_
 have hs := St.start hO
 refine Wp_seq ?_
 refine Wp_region ?_
 refine Rg_op rfl (op_box (cs := [(Value.int .i64 r_.slots), (Value.slice a_r__owners r_.owners.length c_r__owners), (Value.slice a_r__costs r_.costs.length c_r__costs)]) hs rfl rfl ?_)
 intro b1 w2 _ p3 hs4
 replace f_r__owners := f_r__owners.step p3; replace f_r__costs := f_r__costs.step p3; clear p3
 refine Rg_op rfl (op_assign (v := (Value.bool false)) rfl ?_)
 refine Rg_nil ?_
 refine Wp_seq ?_
 refine Wp_seq ?_
 refine Wp_region ?_
 replace hm := bd hm; obtain ⟨sane_1, hv6, hm⟩ := hm
 refine Rg_op rfl (op_call Try.call10 (c10_overflightlaw38_sane  hs4.ltw  hv6) rfl ?_)
 rintro v7 w8 ⟨hx9, h10⟩
 have hs11 := hs4.call hx9
 have p12 := Step.ext (O := ks [(some b1, Obj.cells [(Value.int .i64 r_.slots), (Value.slice a_r__owners r_.owners.length c_r__owners), (Value.slice a_r__costs r_.costs.length c_r__costs)].toArray 25)] O) hx9
 clear hx9
 replace f_r__owners := f_r__owners.step p12; replace f_r__costs := f_r__costs.step p12; clear p12 hs4
 obtain rfl := h10
 refine Rg_op rfl (op_not rfl ?_)
 refine Rg_nil ?_
 refine Wp_cond rfl (fun hc14 => ?_) (fun hc14 => ?_)
 ·
  replace hm := bif_t hm hc14
  refine Wp_seq ?_
  obtain ⟨hs15, p16⟩ := hs11.sub (bs' := []) (.cons _ List.Sublist.slnil)
  clear f_r__owners f_r__costs
  clear p16 hs11
  refine Wp_region ?_
  refine Rg_op rfl (op_assign (v := (Value.bool false)) rfl ?_)
  refine Rg_nil ?_
  refine Wp_ret ?_
  have hz := step_all hs15
  refine ⟨_, (show Closes [] _ _ from rfl), [(Value.bool false)], ⟨rfl, trivial⟩, hs15.ext, ?_⟩
  exact Vr.eq (a := vB) (x := false) rfl (Option.some.inj hm)
 ·
  replace hm := bif_f hm hc14
  refine Wp_skip ?_
  refine Wp_seq ?_
  refine Wp_seq ?_
  refine Wp_region ?_
  refine Rg_op rfl (op_loadA (cs := [(Value.int .i64 r_.slots), (Value.slice a_r__owners r_.owners.length c_r__owners), (Value.slice a_r__costs r_.costs.length c_r__costs)]) (vs := [(Value.int .i64 r_.slots), (Value.slice a_r__owners r_.owners.length c_r__owners), (Value.slice a_r__costs r_.costs.length c_r__costs)]) (i := 0) ty25 hs11 rfl rfl rfl rfl ?_)
  replace hm := bd hm; obtain ⟨few_1, hv17, hm⟩ := hm
  refine Rg_op rfl (op_call Try.call11 (c11_overflightref38_Few (r_ := r_) hs11.ltw r_r__slots f_r__owners f_r__costs hv17) rfl ?_)
  rintro v18 w19 ⟨hx20, h21⟩
  have hs22 := hs11.call hx20
  have p23 := Step.ext (O := ks [(some b1, Obj.cells [(Value.int .i64 r_.slots), (Value.slice a_r__owners r_.owners.length c_r__owners), (Value.slice a_r__costs r_.costs.length c_r__costs)].toArray 25)] O) hx20
  clear hx20
  replace f_r__owners := f_r__owners.step p23; replace f_r__costs := f_r__costs.step p23; clear p23 hs11
  obtain rfl := h21
  refine Rg_op rfl (op_not rfl ?_)
  refine Rg_nil ?_
  refine Wp_cond rfl (fun hc25 => ?_) (fun hc25 => ?_)
  ·
   replace hm := bif_t hm hc25
   refine Wp_seq ?_
   obtain ⟨hs26, p27⟩ := hs22.sub (bs' := []) (.cons _ List.Sublist.slnil)
   clear f_r__owners f_r__costs
   clear p27 hs22
   refine Wp_region ?_
   refine Rg_op rfl (op_assign (v := (Value.bool true)) rfl ?_)
   refine Rg_nil ?_
   refine Wp_ret ?_
   have hz := step_all hs26
   refine ⟨_, (show Closes [] _ _ from rfl), [(Value.bool true)], ⟨rfl, trivial⟩, hs26.ext, ?_⟩
   exact Vr.eq (a := vB) (x := true) rfl (Option.some.inj hm)
  ·
   replace hm := bif_f hm hc25
   refine Wp_skip ?_
   refine Wp_seq ?_
   refine Wp_region ?_
   refine Rg_op rfl (op_loadA (cs := [(Value.int .i64 r_.slots), (Value.slice a_r__owners r_.owners.length c_r__owners), (Value.slice a_r__costs r_.costs.length c_r__costs)]) (vs := [(Value.int .i64 r_.slots), (Value.slice a_r__owners r_.owners.length c_r__owners), (Value.slice a_r__costs r_.costs.length c_r__costs)]) (i := 0) ty25 hs22 rfl rfl rfl rfl ?_)
   replace hm := bd hm; obtain ⟨best_1, hv28, hm⟩ := hm
   refine Rg_op rfl (op_call Try.call18 (c18_clearing_Best (r_ := r_) hs22.ltw r_r__slots f_r__owners f_r__costs hv28) rfl ?_)
   rintro v29 w30 ⟨hx31, h32⟩
   have hs33 := hs22.call hx31
   have p34 := Step.ext (O := ks [(some b1, Obj.cells [(Value.int .i64 r_.slots), (Value.slice a_r__owners r_.owners.length c_r__owners), (Value.slice a_r__costs r_.costs.length c_r__costs)].toArray 25)] O) hx31
   clear hx31
   replace f_r__owners := f_r__owners.step p34; replace f_r__costs := f_r__costs.step p34; clear p34 hs22
   obtain ⟨v35, v36, rfl, h37, h38⟩ := h32
   obtain ⟨a_y39, c_y39, rfl, f_y39⟩ := un_sl h37
   obtain ⟨rfl, r_y40⟩ := h38
   refine Rg_op rfl (op_move (v := (Value.tuple [(Value.slice a_y39 best_1.1.length c_y39), (Value.int .i64 best_1.2)].toArray)) rfl ?_)
   refine Rg_op rfl (op_extract (v := (Value.slice a_y39 best_1.1.length c_y39)) rfl rfl ?_)
   refine Rg_op rfl (op_extract (v := (Value.int .i64 best_1.2)) rfl rfl ?_)
   refine Rg_op rfl (op_assign (v := (Value.slice a_y39 best_1.1.length c_y39)) rfl ?_)
   refine Rg_op rfl (op_assign (v := (Value.int .i64 best_1.2)) rfl ?_)
   refine Rg_nil ?_
   refine Wp_seq ?_
   refine Wp_seq ?_
   refine Wp_region ?_
   refine Rg_op rfl (op_move (v := (Value.int .i64 best_1.2)) rfl ?_)
   refine Rg_op rfl (op_neq rfl rfl ?_)
   refine Rg_nil ?_
   refine Wp_cond rfl (fun hc41 => ?_) (fun hc41 => ?_)
   ·
    replace hm := bif_t hm hc41
    refine Wp_seq ?_
    obtain ⟨hs42, p43⟩ := hs33.sub (bs' := []) (.cons _ List.Sublist.slnil)
    clear f_r__owners f_r__costs f_y39
    clear p43 hs33
    refine Wp_region ?_
    refine Rg_op rfl (op_assign (v := (Value.bool true)) rfl ?_)
    refine Rg_nil ?_
    refine Wp_ret ?_
    have hz := step_all hs42
    refine ⟨_, (show Closes [] _ _ from rfl), [(Value.bool true)], ⟨rfl, trivial⟩, hs42.ext, ?_⟩
    exact Vr.eq (a := vB) (x := true) rfl (Option.some.inj hm)
   ·
    replace hm := bif_f hm hc41
    refine Wp_skip ?_
    refine Wp_seq ?_
    refine Wp_region ?_
    refine Rg_op rfl (op_assign (v := (Value.slice none 0 0)) rfl ?_)
    refine Rg_nil ?_
    refine Wp_seq ?_
    refine Wp_seq ?_
    refine Wp_region ?_
    refine Rg_op rfl (op_fieldAddr ty25 rfl ty22 (by decide) rfl (rfl : _ = (⟨_, 1, none⟩ : Addr)) ?_)
    refine Rg_op rfl (op_load (cs := [(Value.int .i64 r_.slots), (Value.slice a_r__owners r_.owners.length c_r__owners), (Value.slice a_r__costs r_.costs.length c_r__costs)]) (i := 0) ty22 hs33 rfl rfl rfl ?_)
    refine Rg_op rfl (op_len Try.underlying22 rfl ?_)
    have rl44 := inK_len f_r__owners
    refine Rg_op rfl (op_move (v := (Value.int .i64 0)) rfl ?_)
    refine Rg_nil ?_
    refine Wp_block ?_
    refine Wp_reset [] [(1, (Value.pointer (some ⟨b1, 0, none⟩))), (3, (Value.slice a_y39 best_1.1.length c_y39)), (5, (Value.slice none 0 0)), (30, (Value.int .i64 (r_.owners.length : Int))), (31, (Value.int .i64 0))] rfl ⟨rfl, rfl, rfl, rfl, rfl, trivial⟩ fun ξ48 => ?_
    have hs53 := hs33.ghost (Obj.cells #[] 3)
    refine Wp_loopM [5, 6, 31, 32, 33, 34, 35, 36, 37, 38] (fun m fr w' => ∃ (own_1 : List Int) (v_1 : Int) (a_g46 : Option Addr) (c_g46 : Nat) (k_g46 : Option Nat) (o_g46 : Obj) (Ebs : Ents), Ebs = [(k_g46, o_g46), (some b1, Obj.cells [(Value.int .i64 r_.slots), (Value.slice a_r__owners r_.owners.length c_r__owners), (Value.slice a_r__costs r_.costs.length c_r__costs)].toArray 25)] ∧ fr [] [(5, (Value.slice a_g46 own_1.length c_g46)), (31, (Value.int .i64 v_1))] ∧ Step (ks [(none, (Obj.cells #[] 3)), (some b1, Obj.cells [(Value.int .i64 r_.slots), (Value.slice a_r__owners r_.owners.length c_r__owners), (Value.slice a_r__costs r_.costs.length c_r__costs)].toArray 25)] O) w30 (ks Ebs O) w' ∧ St ⟨w, [], []⟩ O w' Ebs ∧ Gs (rInt .i64) 3 w' (ks Ebs O) a_g46 c_g46 own_1 k_g46 o_g46 ∧ InK .i64 v_1 ∧ loop2 (m6_overflightlaw38_ClearingSaves_B0 r_ best_1) m own_1 v_1 = some x) (((r_.owners.length : Int) - 0).toNat + 1) ⟨([] : List Int), 0, none, 0, none, (Obj.cells #[] 3), _, rfl, ⟨Out.refl _ _, rfl, rfl, rfl, trivial⟩, Step.refl _ _, hs53, Gs.nil_, (show InK .i64 0 from by decide), hm⟩ ?_ ?_
    · rintro _ _ ⟨_, _, _, _, _, _, _, _, _, _, _, _, _, hm⟩; exact loop2_z hm
    ·
     rintro m52 K51 hK51 ρ59 w55 ⟨own_1, v_1, a_g46, c_g46, k_g46, o_g46, Ebs, hEbs, hfr58, hst57, hs56, f_g46, r_y47, hm⟩
     obtain ⟨sf49, hsf50, hm⟩ := loop2_s hm; unfold m6_overflightlaw38_ClearingSaves_B0 at hm
     subst hEbs; rw [hfr58.eq]; clear hfr58
     replace f_r__owners := f_r__owners.step hst57; replace f_r__costs := f_r__costs.step hst57; replace f_y39 := f_y39.step hst57
     have ch60 := hst57
     refine Wp_seq ?_
     refine Wp_region ?_
     refine Rg_op rfl (op_lss rfl rfl ?_)
     refine Rg_nil ?_
     refine Wp_seq ?_
     refine Wp_cond rfl (fun hc61 => ?_) (fun hc61 => ?_)
     ·
      replace hm := bif_t hm hc61
      refine Wp_skip ?_
      refine Wp_seq ?_
      refine Wp_block ?_
      refine Wp_seq ?_
      refine Wp_region ?_
      refine Rg_op rfl (op_move (v := (Value.int .i64 v_1)) rfl ?_)
      refine Rg_op rfl (op_assign (v := (Value.int .i64 v_1)) rfl ?_)
      refine Rg_nil ?_
      refine Wp_region ?_
      refine Rg_op rfl (op_move (v := (Value.slice a_g46 own_1.length c_g46)) rfl ?_)
      refine Rg_op rfl (op_move (v := (Value.int .i64 v_1)) rfl ?_)
      refine Rg_op rfl (op_buildSlice (cs := [(Value.int .i64 v_1)]) (parts := [(0, .tmp 35)]) ty22 ty3 hs56 (by decide) rfl ?_)
      intro b62 w63 hx66 p64 hs65
      replace f_r__owners := f_r__owners.step p64; replace f_r__costs := f_r__costs.step p64; replace f_y39 := f_y39.step p64; replace f_g46 := f_g46.step p64; replace ch60 := ch60.trans p64; clear p64 hs56
      replace hm := ck_some hm; obtain ⟨hc68, hm⟩ := hm
      refine Rg_op rfl (op_append (q := (rInt .i64)) (i := 1) (xs := own_1) (ys := [v_1]) (news := [(Value.int .i64 v_1)]) ty22 ty3 rfl (by decide) hs65 rfl rfl f_g46 rfl (Src.owned' (len := 1) (hs65.get (i := 0) rfl) rfl) (show Els (rInt .i64) _ _ [(Value.int .i64 v_1)] [v_1] from ⟨_, _, rfl, (mk_int r_y47), Els.nil⟩) hc68 (by have := hc68; simp only [maxLen]; omega) ?_)
      intro a72 c73 k74 o75 w69 p70 hs71 f76
      replace f_r__owners := f_r__owners.step p70; replace f_r__costs := f_r__costs.step p70; replace f_y39 := f_y39.step p70; replace ch60 := ch60.trans p70; clear p70 hs65
      have hs77 := hs71.drop 0
      replace f_r__owners := f_r__owners.step (hs71.dropS 0)
      replace f_r__costs := f_r__costs.step (hs71.dropS 0)
      replace f_y39 := f_y39.step (hs71.dropS 0)
      replace f76 := f76.step (hs71.dropS 0)
      replace ch60 := ch60.trans (hs71.dropS 0); clear hs71
      refine Rg_op rfl (op_assign (v := (Value.slice a72 (own_1 ++ [v_1]).length c73)) rfl ?_)
      refine Rg_nil ?_
      refine Wp_region ?_
      refine Rg_op rfl (op_addw rfl rfl ?_)
      refine Rg_op rfl (op_move (v := (Value.int .i64 (IntKind.wrap .i64 (v_1 + 1)))) rfl ?_)
      refine Rg_nil ?_
      exact hK51 _ _ ⟨(own_1 ++ [v_1]), (IntKind.wrap .i64 (v_1 + 1)), a72, c73, k74, o75, _, rfl, ⟨(by repeat (first | with_reducible exact Out.refl _ _ | refine Out.upd ?_ rfl | refine Out.updL ?_ rfl | refine Out.mix' ?_ rfl | exact Out.refl _ _)), rfl, rfl, rfl, trivial⟩, ch60, hs77, f76, (inK_wrap .i64 _), jnE2 hsf50 hm⟩
     ·
      replace hm := bif_f hm hc61
      refine Wp_exit ?_
      refine Wp_seq ?_
      refine Wp_region ?_
      refine Rg_op rfl (op_loadA (cs := [(Value.int .i64 r_.slots), (Value.slice a_r__owners r_.owners.length c_r__owners), (Value.slice a_r__costs r_.costs.length c_r__costs)]) (vs := [(Value.int .i64 r_.slots), (Value.slice a_r__owners r_.owners.length c_r__owners), (Value.slice a_r__costs r_.costs.length c_r__costs)]) (i := 1) ty25 hs56 rfl rfl rfl rfl ?_)
      refine Rg_op rfl (op_move (v := (Value.slice a_y39 best_1.1.length c_y39)) rfl ?_)
      replace hm := bd hm; obtain ⟨value_1, hv78, hm⟩ := hm
      refine Rg_op rfl (op_call Try.call12 (c12_clearing_Value (r_ := r_) (slots := best_1.1) hs56.ltw r_r__slots f_r__owners f_r__costs f_y39 hv78) rfl ?_)
      rintro v79 w80 ⟨hx81, h82⟩
      have hs83 := hs56.call hx81
      have p84 := Step.ext (O := ks [(k_g46, o_g46), (some b1, Obj.cells [(Value.int .i64 r_.slots), (Value.slice a_r__owners r_.owners.length c_r__owners), (Value.slice a_r__costs r_.costs.length c_r__costs)].toArray 25)] O) hx81
      clear hx81
      replace f_r__owners := f_r__owners.step p84; replace f_r__costs := f_r__costs.step p84; replace f_y39 := f_y39.step p84; replace f_g46 := f_g46.step p84; replace ch60 := ch60.trans p84; clear p84 hs56
      obtain ⟨v85, v86, rfl, h87, h88⟩ := h82
      obtain ⟨a_y89, c_y89, rfl, f_y89⟩ := un_sl h87
      obtain ⟨rfl, r_y90⟩ := h88
      refine Rg_op rfl (op_move (v := (Value.tuple [(Value.slice a_y89 value_1.1.length c_y89), (Value.int .i64 value_1.2)].toArray)) rfl ?_)
      refine Rg_op rfl (op_extract (v := (Value.slice a_y89 value_1.1.length c_y89)) rfl rfl ?_)
      refine Rg_op rfl (op_extract (v := (Value.int .i64 value_1.2)) rfl rfl ?_)
      refine Rg_op rfl (op_assign (v := (Value.slice a_y89 value_1.1.length c_y89)) rfl ?_)
      refine Rg_op rfl (op_assign (v := (Value.int .i64 value_1.2)) rfl ?_)
      refine Rg_nil ?_
      refine Wp_seq ?_
      refine Wp_region ?_
      refine Rg_op rfl (op_loadA (cs := [(Value.int .i64 r_.slots), (Value.slice a_r__owners r_.owners.length c_r__owners), (Value.slice a_r__costs r_.costs.length c_r__costs)]) (vs := [(Value.int .i64 r_.slots), (Value.slice a_r__owners r_.owners.length c_r__owners), (Value.slice a_r__costs r_.costs.length c_r__costs)]) (i := 1) ty25 hs83 rfl rfl rfl rfl ?_)
      refine Rg_op rfl (op_move (v := (Value.slice a_g46 own_1.length c_g46)) rfl ?_)
      obtain ⟨hs92, p93, f91⟩ := Gs.publish (i := 0) hs83 rfl f_g46
      replace f_r__owners := f_r__owners.step p93; replace f_r__costs := f_r__costs.step p93; replace f_y39 := f_y39.step p93; replace f_y89 := f_y89.step p93; replace ch60 := ch60.trans p93; clear p93 hs83
      replace hm := bd hm; obtain ⟨value_2, hv94, hm⟩ := hm
      refine Rg_op rfl (op_call Try.call12 (c12_clearing_Value (r_ := r_) (slots := own_1) hs92.ltw r_r__slots f_r__owners f_r__costs f91 hv94) rfl ?_)
      rintro v95 w96 ⟨hx97, h98⟩
      have hs99 := hs92.call hx97
      have p100 := Step.ext (O := ks [(some b1, Obj.cells [(Value.int .i64 r_.slots), (Value.slice a_r__owners r_.owners.length c_r__owners), (Value.slice a_r__costs r_.costs.length c_r__costs)].toArray 25)] O) hx97
      clear hx97
      replace f_r__owners := f_r__owners.step p100; replace f_r__costs := f_r__costs.step p100; replace f_y39 := f_y39.step p100; replace f_y89 := f_y89.step p100; replace f91 := f91.step p100; replace ch60 := ch60.trans p100; clear p100 hs92
      obtain ⟨v101, v102, rfl, h103, h104⟩ := h98
      obtain ⟨a_y105, c_y105, rfl, f_y105⟩ := un_sl h103
      obtain ⟨rfl, r_y106⟩ := h104
      refine Rg_op rfl (op_move (v := (Value.tuple [(Value.slice a_y105 value_2.1.length c_y105), (Value.int .i64 value_2.2)].toArray)) rfl ?_)
      refine Rg_op rfl (op_extract (v := (Value.slice a_y105 value_2.1.length c_y105)) rfl rfl ?_)
      refine Rg_op rfl (op_extract (v := (Value.int .i64 value_2.2)) rfl rfl ?_)
      refine Rg_op rfl (op_assign (v := (Value.slice a_y105 value_2.1.length c_y105)) rfl ?_)
      refine Rg_op rfl (op_assign (v := (Value.int .i64 value_2.2)) rfl ?_)
      refine Rg_nil ?_
      refine Wp_seq ?_
      clear f91
      refine Wp_region ?_
      refine Rg_op rfl (op_loadA (cs := [(Value.int .i64 r_.slots), (Value.slice a_r__owners r_.owners.length c_r__owners), (Value.slice a_r__costs r_.costs.length c_r__costs)]) (vs := [(Value.int .i64 r_.slots), (Value.slice a_r__owners r_.owners.length c_r__owners), (Value.slice a_r__costs r_.costs.length c_r__costs)]) (i := 0) ty25 hs99 rfl rfl rfl rfl ?_)
      refine Rg_op rfl (op_move (v := (Value.slice a_y39 best_1.1.length c_y39)) rfl ?_)
      replace hm := bd hm; obtain ⟨costs_1, hv107, hm⟩ := hm
      refine Rg_op rfl (op_call Try.call22 (c22_coalition_Costs (r_ := r_) (slots := best_1.1) hs99.ltw r_r__slots f_r__owners f_r__costs f_y39 hv107) rfl ?_)
      rintro v108 w109 ⟨hx110, h111⟩
      have hs112 := hs99.call hx110
      have p113 := Step.ext (O := ks [(some b1, Obj.cells [(Value.int .i64 r_.slots), (Value.slice a_r__owners r_.owners.length c_r__owners), (Value.slice a_r__costs r_.costs.length c_r__costs)].toArray 25)] O) hx110
      clear hx110
      replace f_r__owners := f_r__owners.step p113; replace f_r__costs := f_r__costs.step p113; replace f_y39 := f_y39.step p113; replace f_y89 := f_y89.step p113; replace f_y105 := f_y105.step p113; replace ch60 := ch60.trans p113; clear p113 hs99
      obtain ⟨v114, v115, rfl, h116, h117⟩ := h111
      obtain ⟨a_y118, c_y118, rfl, f_y118⟩ := un_sl h116
      obtain ⟨rfl, r_y119⟩ := h117
      refine Rg_op rfl (op_move (v := (Value.tuple [(Value.slice a_y118 costs_1.1.length c_y118), (Value.int .i64 costs_1.2)].toArray)) rfl ?_)
      refine Rg_op rfl (op_extract (v := (Value.slice a_y118 costs_1.1.length c_y118)) rfl rfl ?_)
      refine Rg_op rfl (op_extract (v := (Value.int .i64 costs_1.2)) rfl rfl ?_)
      refine Rg_op rfl (op_assign (v := (Value.slice a_y118 costs_1.1.length c_y118)) rfl ?_)
      refine Rg_op rfl (op_assign (v := (Value.int .i64 costs_1.2)) rfl ?_)
      refine Rg_nil ?_
      refine Wp_seq ?_
      refine Wp_reset [] [(7, (Value.slice a_y89 value_1.1.length c_y89)), (8, (Value.int .i64 value_1.2)), (9, (Value.slice a_y105 value_2.1.length c_y105)), (10, (Value.int .i64 value_2.2)), (11, (Value.slice a_y118 costs_1.1.length c_y118)), (12, (Value.int .i64 costs_1.2))] rfl ⟨rfl, rfl, rfl, rfl, rfl, rfl, trivial⟩ fun ξ120 => ?_
      replace hm := jn_elim hm; obtain ⟨k122, hk123, hm⟩ := hm
      refine Wp_seqJ [57, 58, 59, 60, 61, 62, 63, 64, 65, 66, 67, 68, 69, 70, 71, 72, 73, 74, 75] (fun fr w' => ∃ (v_2 : Bool) (Ebs : Ents), Ebs = [(some b1, Obj.cells [(Value.int .i64 r_.slots), (Value.slice a_r__owners r_.owners.length c_r__owners), (Value.slice a_r__costs r_.costs.length c_r__costs)].toArray 25)] ∧ fr [] [(75, (Value.bool v_2))] ∧ Step (ks [(some b1, Obj.cells [(Value.int .i64 r_.slots), (Value.slice a_r__owners r_.owners.length c_r__owners), (Value.slice a_r__costs r_.costs.length c_r__costs)].toArray 25)] O) w109 (ks Ebs O) w' ∧ St ⟨w, [], []⟩ O w' Ebs ∧ k122 v_2 = some x) ?_ ?_
      ·
       rintro ρ129 w125 ⟨v_2, Ebs, hEbs, hfr128, hst127, hs126, hm⟩
       replace hm := jnE1 hk123 hm
       subst hEbs; rw [hfr128.eq]; clear hfr128
       replace f_r__owners := f_r__owners.step hst127; replace f_r__costs := f_r__costs.step hst127; replace f_y39 := f_y39.step hst127; replace f_y89 := f_y89.step hst127; replace f_y105 := f_y105.step hst127; replace f_y118 := f_y118.step hst127; replace ch60 := ch60.trans hst127; clear hst127 hs112
       refine Wp_cond rfl (fun hc130 => ?_) (fun hc130 => ?_)
       ·
        replace hm := bif_t hm hc130
        refine Wp_seq ?_
        obtain ⟨hs131, p132⟩ := hs126.sub (bs' := []) (.cons _ List.Sublist.slnil)
        clear f_r__owners f_r__costs f_y39 f_y89 f_y105 f_y118
        replace ch60 := ch60.trans p132; clear p132 hs126
        refine Wp_region ?_
        refine Rg_op rfl (op_assign (v := (Value.bool false)) rfl ?_)
        refine Rg_nil ?_
        refine Wp_ret ?_
        have hz := step_all hs131
        refine ⟨_, (show Closes [] _ _ from rfl), [(Value.bool false)], ⟨rfl, trivial⟩, hs131.ext, ?_⟩
        exact Vr.eq (a := vB) (x := false) rfl (Option.some.inj hm)
       ·
        replace hm := bif_f hm hc130
        refine Wp_skip ?_
        refine Wp_seq ?_
        obtain ⟨hs133, p134⟩ := hs126.sub (bs' := []) (.cons _ List.Sublist.slnil)
        clear f_r__owners f_r__costs f_y39
        replace f_y89 := f_y89.step p134; replace f_y105 := f_y105.step p134; replace f_y118 := f_y118.step p134; replace ch60 := ch60.trans p134; clear p134 hs126
        refine Wp_region ?_
        refine Rg_op rfl (op_assign (v := (Value.int .i64 0)) rfl ?_)
        refine Rg_nil ?_
        refine Wp_seq ?_
        refine Wp_seq ?_
        refine Wp_region ?_
        refine Rg_op rfl (op_move (v := (Value.slice a_y118 costs_1.1.length c_y118)) rfl ?_)
        refine Rg_op rfl (op_len Try.underlying22 rfl ?_)
        have rl135 := inK_len f_y118
        refine Rg_op rfl (op_move (v := (Value.int .i64 0)) rfl ?_)
        refine Rg_nil ?_
        refine Wp_block ?_
        refine Wp_reset [] [(7, (Value.slice a_y89 value_1.1.length c_y89)), (9, (Value.slice a_y105 value_2.1.length c_y105)), (13, (Value.int .i64 0)), (76, (Value.slice a_y118 costs_1.1.length c_y118)), (77, (Value.int .i64 (costs_1.1.length : Int))), (78, (Value.int .i64 0))] rfl ⟨rfl, rfl, rfl, rfl, rfl, rfl, trivial⟩ fun ξ138 => ?_
        refine Wp_loopM [13, 15, 78, 79, 80, 81, 82, 83, 84, 85] (fun m fr w' => ∃ (sum_1 : Int) (v_3 : Int) (Ebs : Ents), Ebs = [] ∧ fr [] [(13, (Value.int .i64 sum_1)), (78, (Value.int .i64 v_3))] ∧ Step (ks [] O) w125 (ks Ebs O) w' ∧ St ⟨w, [], []⟩ O w' Ebs ∧ InK .i64 sum_1 ∧ InK .i64 v_3 ∧ loop2 (m6_overflightlaw38_ClearingSaves_B1 value_1 value_2 costs_1) m sum_1 v_3 = some x) (((costs_1.1.length : Int) - 0).toNat + 1) ⟨0, 0, _, rfl, ⟨Out.refl _ _, rfl, rfl, rfl, trivial⟩, Step.refl _ _, hs133, (show InK .i64 0 from by decide), (show InK .i64 0 from by decide), hm⟩ ?_ ?_
        · rintro _ _ ⟨_, _, _, _, _, _, _, _, _, hm⟩; exact loop2_z hm
        ·
         rintro m142 K141 hK141 ρ147 w143 ⟨sum_1, v_3, Ebs, hEbs, hfr146, hst145, hs144, r_y136, r_y137, hm⟩
         obtain ⟨sf139, hsf140, hm⟩ := loop2_s hm; unfold m6_overflightlaw38_ClearingSaves_B1 at hm
         subst hEbs; rw [hfr146.eq]; clear hfr146
         replace f_y89 := f_y89.step hst145; replace f_y105 := f_y105.step hst145; replace f_y118 := f_y118.step hst145; replace ch60 := ch60.trans hst145
         have ch148 := hst145
         refine Wp_seq ?_
         refine Wp_region ?_
         refine Rg_op rfl (op_lss rfl rfl ?_)
         refine Rg_nil ?_
         refine Wp_seq ?_
         refine Wp_cond rfl (fun hc149 => ?_) (fun hc149 => ?_)
         ·
          replace hm := bif_t hm hc149
          refine Wp_skip ?_
          refine Wp_seq ?_
          refine Wp_block ?_
          refine Wp_seq ?_
          refine Wp_region ?_
          replace hm := ck_some hm; obtain ⟨hc150, hm⟩ := hm
          refine Rg_op rfl (op_indexAddr (q := (rInt .i64)) ty22 ty3 rfl rfl f_y118 rfl hc150.1 hc150.2 ?_)
          intro p151 f152
          refine Rg_op rfl (op_loadP ty3 rfl f152 rfl ?_)
          intro v153 h154
          obtain ⟨rfl, r_y155⟩ := un_int h154
          refine Rg_op rfl (op_assign (v := (Value.int .i64 (costs_1.1.getD v_3.toNat default))) rfl ?_)
          refine Rg_nil ?_
          clear f152
          refine Wp_region ?_
          refine Rg_op rfl (op_move (v := (Value.int .i64 sum_1)) rfl ?_)
          refine Rg_op rfl (op_move (v := (Value.int .i64 (costs_1.1.getD v_3.toNat default))) rfl ?_)
          refine Rg_op rfl (op_addw rfl rfl ?_)
          refine Rg_op rfl (op_assign (v := (Value.int .i64 (IntKind.wrap .i64 (sum_1 + (costs_1.1.getD v_3.toNat default))))) rfl ?_)
          refine Rg_nil ?_
          refine Wp_region ?_
          refine Rg_op rfl (op_addw rfl rfl ?_)
          refine Rg_op rfl (op_move (v := (Value.int .i64 (IntKind.wrap .i64 (v_3 + 1)))) rfl ?_)
          refine Rg_nil ?_
          exact hK141 _ _ ⟨(IntKind.wrap .i64 (sum_1 + (costs_1.1.getD v_3.toNat default))), (IntKind.wrap .i64 (v_3 + 1)), _, rfl, ⟨(by repeat (first | with_reducible exact Out.refl _ _ | refine Out.upd ?_ rfl | refine Out.updL ?_ rfl | refine Out.mix' ?_ rfl | exact Out.refl _ _)), rfl, rfl, rfl, trivial⟩, ch148, hs144, (inK_wrap .i64 _), (inK_wrap .i64 _), jnE2 hsf140 hm⟩
         ·
          replace hm := bif_f hm hc149
          refine Wp_exit ?_
          refine Wp_seq ?_
          clear f_y118
          refine Wp_drawR (g0 := []) (m := 12) (fl := []) (TS_inv hs144) rfl (.inl rfl) rfl (by decide +kernel) ?_  -- 25
          refine Dw_eq (Value.int .i64 sum_1) (fun ρ156 w157 g hle hi ht => ?_) ?_
          ·
           obtain ⟨-, hst, -⟩ := hle
           refine StepOp_plain (op_move (v := (Value.int .i64 sum_1)) (ht 13 rfl) ?_)
           exact Goes.same hi rfl
          refine Dw_eq (Value.slice a_y89 value_1.1.length c_y89) (fun ρ159 w160 g hle hi ht => ?_) ?_
          ·
           obtain ⟨-, hst, -⟩ := hle
           refine StepOp_plain (op_move (v := (Value.slice a_y89 value_1.1.length c_y89)) (ht 7 rfl) ?_)
           exact Goes.same hi rfl
          replace hm := ck_some hm; obtain ⟨hc165, hm⟩ := hm
          refine Dw_op (VP O [] (rInt .i64) (value_1.1.getD 0 default)) (VP.stab _ _) (fun ρ162 w163 g hle hi ht => ?_) ?_
          ·
           obtain ⟨-, hst, -⟩ := hle
           replace f_y89 := f_y89.step hst
           refine StepOp_plain (op_indexAddr (q := (rInt .i64)) ty22 ty3 (ht 87 rfl) rfl f_y89 rfl hc165.1 hc165.2 ?_)
           intro p166 f167
           exact Goes.same hi ⟨_, rfl, f167⟩
          refine Dw_op (VD O [] (vI .i64) (value_1.1.getD 0 default)) (VD.stab _ _) (fun ρ168 w169 g hle hi ht => ?_) ?_
          ·
           obtain ⟨-, hst, -⟩ := hle
           obtain ⟨p171, q172, f173⟩ := ht 88 rfl
           refine StepOp_plain (op_loadP ty3 q172 f173 rfl ?_)
           intro v174 h175
           obtain ⟨rfl, r_y176⟩ := un_int h175
           exact Goes.same hi (show Vr.vd (vI .i64) _ _ _ _ from ⟨rfl, r_y176⟩)
          refine Dw_eq (Value.bool (decide (sum_1 = (value_1.1.getD 0 default)))) (fun ρ177 w178 g hle hi ht => ?_) ?_
          ·
           obtain ⟨-, hst, -⟩ := hle
           have h180 : Vr.vd (vI .i64) _ _ _ _ := ht 89 rfl
           obtain ⟨q181, r_y182⟩ := h180
           refine StepOp_plain (op_eql (ht 86 rfl) q181 ?_)
           exact Goes.same hi rfl
          refine Dw_opB (decide (sum_1 = (value_1.1.getD 0 default))) (fun ρ183 w184 g hle hi ht => ?_) (fun hg186 => ?_) (fun hg186 => ?_)
          ·
           obtain ⟨-, hst, -⟩ := hle
           refine StepOp_plain (op_move (v := (Value.bool (decide (sum_1 = (value_1.1.getD 0 default))))) (ht 90 rfl) ?_)
           exact Goes.same hi rfl
          ·
           replace hm := bif_t hm hg186
           refine Dw_eq (Value.slice a_y89 value_1.1.length c_y89) (fun ρ187 w188 g hle hi ht => ?_) ?_
           ·
            obtain ⟨-, hst, -⟩ := hle
            refine StepOp_g rfl (ht 91 rfl) (op_move (v := (Value.slice a_y89 value_1.1.length c_y89)) (ht 7 rfl) ?_)
            exact Goes.same hi rfl
           replace hm := ck_some hm; obtain ⟨hc193, hm⟩ := hm
           refine Dw_op (VP O [] (rInt .i64) (value_1.1.getD 0 default)) (VP.stab _ _) (fun ρ190 w191 g hle hi ht => ?_) ?_
           ·
            obtain ⟨-, hst, -⟩ := hle
            replace f_y89 := f_y89.step hst
            refine StepOp_g rfl (ht 91 rfl) (op_indexAddr (q := (rInt .i64)) ty22 ty3 (ht 92 rfl) rfl f_y89 rfl hc193.1 hc193.2 ?_)
            intro p194 f195
            exact Goes.same hi ⟨_, rfl, f195⟩
           refine Dw_op (VD O [] (vI .i64) (value_1.1.getD 0 default)) (VD.stab _ _) (fun ρ196 w197 g hle hi ht => ?_) ?_
           ·
            obtain ⟨-, hst, -⟩ := hle
            obtain ⟨p199, q200, f201⟩ := ht 93 rfl
            refine StepOp_g rfl (ht 91 rfl) (op_loadP ty3 q200 f201 rfl ?_)
            intro v202 h203
            obtain ⟨rfl, r_y204⟩ := un_int h203
            exact Goes.same hi (show Vr.vd (vI .i64) _ _ _ _ from ⟨rfl, r_y204⟩)
           refine Dw_eq (Value.slice a_y105 value_2.1.length c_y105) (fun ρ205 w206 g hle hi ht => ?_) ?_
           ·
            obtain ⟨-, hst, -⟩ := hle
            refine StepOp_g rfl (ht 91 rfl) (op_move (v := (Value.slice a_y105 value_2.1.length c_y105)) (ht 9 rfl) ?_)
            exact Goes.same hi rfl
           replace hm := ck_some hm; obtain ⟨hc211, hm⟩ := hm
           refine Dw_op (VP O [] (rInt .i64) (value_2.1.getD 0 default)) (VP.stab _ _) (fun ρ208 w209 g hle hi ht => ?_) ?_
           ·
            obtain ⟨-, hst, -⟩ := hle
            replace f_y105 := f_y105.step hst
            refine StepOp_g rfl (ht 91 rfl) (op_indexAddr (q := (rInt .i64)) ty22 ty3 (ht 95 rfl) rfl f_y105 rfl hc211.1 hc211.2 ?_)
            intro p212 f213
            exact Goes.same hi ⟨_, rfl, f213⟩
           refine Dw_op (VD O [] (vI .i64) (value_2.1.getD 0 default)) (VD.stab _ _) (fun ρ214 w215 g hle hi ht => ?_) ?_
           ·
            obtain ⟨-, hst, -⟩ := hle
            obtain ⟨p217, q218, f219⟩ := ht 96 rfl
            refine StepOp_g rfl (ht 91 rfl) (op_loadP ty3 q218 f219 rfl ?_)
            intro v220 h221
            obtain ⟨rfl, r_y222⟩ := un_int h221
            exact Goes.same hi (show Vr.vd (vI .i64) _ _ _ _ from ⟨rfl, r_y222⟩)
           refine Dw_nil fun w227 g228 hl229 hi230 => ?_
           obtain ⟨-, hst231, -⟩ := hl229
           obtain ⟨hs233, p232⟩ := Step.nx hi230
           rintro v234 h235
           replace h235 : Vr.vd (vI .i64) _ _ _ _ := h235
           obtain ⟨rfl, r_y236⟩ := h235
           rintro _ ⟨p237, rfl, f238⟩
           rintro _ rfl
           rintro v239 h240
           replace h240 : Vr.vd (vI .i64) _ _ _ _ := h240
           obtain ⟨rfl, r_y241⟩ := h240
           rintro _ ⟨p242, rfl, f243⟩
           rintro _ rfl
           rintro _ rfl
           rintro _ rfl
           rintro v244 h245
           replace h245 : Vr.vd (vI .i64) _ _ _ _ := h245
           obtain ⟨rfl, r_y246⟩ := h245
           rintro _ ⟨p247, rfl, f248⟩
           rintro _ rfl
           rintro _ rfl
           have p249 : Step (ks [] O) w143 (ks [] O) w227 := hst231.trans p232
           replace f238 := f238.step p232; replace f243 := f243.step p232; replace f248 := f248.step p232; replace f_y89 := f_y89.step p249; replace f_y105 := f_y105.step p249; replace ch60 := ch60.trans p249; replace ch148 := ch148.trans p249; clear p249 hs144
           refine Rg_opg rfl rfl rfl (op_lss rfl rfl ?_)
           refine Rg_opg rfl rfl rfl (op_move (v := (Value.bool (decide ((value_1.1.getD 0 default) < (value_2.1.getD 0 default))))) rfl ?_)
           refine Rg_case (fun hg250 => ?_) (fun hg250 => ?_)
           ·
            replace hm := bif_t hm hg250
            iterate 4 refine Rg_opx rfl (asB_ne rfl rfl) rfl ?_
            refine Rg_opg rfl rfl rfl (op_pick_t (v := (Value.bool true)) rfl rfl ?_)
            refine Rg_op rfl (op_pick_t (v := (Value.bool true)) rfl rfl ?_)
            refine Rg_op rfl (op_assign (v := (Value.bool true)) rfl ?_)
            refine Rg_nil ?_
            refine Wp_ret ?_
            have hz := step_all hs233
            replace f_y89 := f_y89.step hz; replace f_y105 := f_y105.step hz; replace f238 := f238.step hz; replace f243 := f243.step hz; replace f248 := f248.step hz
            refine ⟨_, (show Closes [] _ _ from rfl), [(Value.bool true)], ⟨rfl, trivial⟩, hs233.ext, ?_⟩
            exact Vr.eq (a := vB) (x := true) rfl (Option.some.inj hm)
           ·
            replace hm := bif_f hm hg250
            refine Rg_opg rfl rfl rfl (op_move (v := (Value.slice a_y89 value_1.1.length c_y89)) rfl ?_)
            replace hm := ck_some hm; obtain ⟨hc251, hm⟩ := hm
            refine Rg_opg rfl rfl rfl (op_indexAddr (q := (rInt .i64)) ty22 ty3 rfl rfl f_y89 rfl hc251.1 hc251.2 ?_)
            intro p252 f253
            replace f253 : PtR (rInt .i64) _ _ p252 (value_1.1.getD 1 default) := f253
            refine Rg_opg rfl rfl rfl (op_loadP ty3 rfl f253 rfl ?_)
            intro v254 h255
            obtain ⟨rfl, r_y256⟩ := un_int h255
            refine Rg_opg rfl rfl rfl (op_eql rfl rfl ?_)
            refine Rg_opg rfl rfl rfl (op_pick_f (v := (Value.bool (decide ((value_1.1.getD 1 default) = 0)))) rfl rfl ?_)
            refine Rg_op rfl (op_pick_t (v := (Value.bool (decide ((value_1.1.getD 1 default) = 0)))) rfl rfl ?_)
            refine Rg_op rfl (op_assign (v := (Value.bool (decide ((value_1.1.getD 1 default) = 0)))) rfl ?_)
            refine Rg_nil ?_
            refine Wp_ret ?_
            have hz := step_all hs233
            replace f_y89 := f_y89.step hz; replace f_y105 := f_y105.step hz; replace f238 := f238.step hz; replace f243 := f243.step hz; replace f248 := f248.step hz; replace f253 := f253.step hz
            refine ⟨_, (show Closes [] _ _ from rfl), [(Value.bool (decide ((value_1.1.getD 1 default) = 0)))], ⟨rfl, trivial⟩, hs233.ext, ?_⟩
            exact Vr.eq (a := vB) (x := (decide ((value_1.1.getD 1 default) = 0))) rfl (Option.some.inj hm)
          ·
           replace hm := bif_f hm hg186
           refine Dw_skip (fun _ _ _ ht => wanted_x rfl (ht 91 rfl) rfl) ?_
           refine Dw_skip (fun _ _ _ ht => wanted_x rfl (ht 91 rfl) rfl) ?_
           refine Dw_skip (fun _ _ _ ht => wanted_x rfl (ht 91 rfl) rfl) ?_
           refine Dw_skip (fun _ _ _ ht => wanted_x rfl (ht 91 rfl) rfl) ?_
           refine Dw_skip (fun _ _ _ ht => wanted_x rfl (ht 91 rfl) rfl) ?_
           refine Dw_skip (fun _ _ _ ht => wanted_x rfl (ht 91 rfl) rfl) ?_
           refine Dw_nil fun w261 g262 hl263 hi264 => ?_
           obtain ⟨-, hst265, -⟩ := hl263
           obtain ⟨hs267, p266⟩ := Step.nx hi264
           rintro _ rfl
           rintro _ rfl
           rintro _ rfl
           rintro _ rfl
           rintro _ rfl
           rintro _ rfl
           rintro _ rfl
           rintro _ rfl
           rintro v268 h269
           replace h269 : Vr.vd (vI .i64) _ _ _ _ := h269
           obtain ⟨rfl, r_y270⟩ := h269
           rintro _ ⟨p271, rfl, f272⟩
           rintro _ rfl
           rintro _ rfl
           have p273 : Step (ks [] O) w143 (ks [] O) w261 := hst265.trans p266
           replace f272 := f272.step p266; replace f_y89 := f_y89.step p273; replace f_y105 := f_y105.step p273; replace ch60 := ch60.trans p273; replace ch148 := ch148.trans p273; clear p273 hs144
           iterate 7 refine Rg_opx rfl (asB_ne rfl rfl) rfl ?_
           refine Rg_op rfl (op_pick_f (v := (Value.bool false)) rfl rfl ?_)
           refine Rg_op rfl (op_assign (v := (Value.bool false)) rfl ?_)
           refine Rg_nil ?_
           refine Wp_ret ?_
           have hz := step_all hs267
           replace f_y89 := f_y89.step hz; replace f_y105 := f_y105.step hz; replace f272 := f272.step hz
           refine ⟨_, (show Closes [] _ _ from rfl), [(Value.bool false)], ⟨rfl, trivial⟩, hs267.ext, ?_⟩
           exact Vr.eq (a := vB) (x := false) rfl (Option.some.inj hm)
      ·
       intro K124 hK124
       have ch274 := Step.refl (ks [(some b1, Obj.cells [(Value.int .i64 r_.slots), (Value.slice a_r__owners r_.owners.length c_r__owners), (Value.slice a_r__costs r_.costs.length c_r__costs)].toArray 25)] O) w109
       clear f_y39
       refine Wp_drawR (g0 := []) (m := 17) (fl := []) (TS_inv hs112) rfl (.inl rfl) rfl (by decide +kernel) ?_  -- 17
       refine Dw_eq (Value.int .i64 value_1.2) (fun ρ275 w276 g hle hi ht => ?_) ?_
       ·
        obtain ⟨-, hst, -⟩ := hle
        refine StepOp_plain (op_move (v := (Value.int .i64 value_1.2)) (ht 8 rfl) ?_)
        exact Goes.same hi rfl
       refine Dw_eq (Value.bool (decide (value_1.2 ≠ 0))) (fun ρ278 w279 g hle hi ht => ?_) ?_
       ·
        obtain ⟨-, hst, -⟩ := hle
        refine StepOp_plain (op_neq (ht 57 rfl) rfl ?_)
        exact Goes.same hi rfl
       refine Dw_opB (decide (value_1.2 ≠ 0)) (fun ρ281 w282 g hle hi ht => ?_) (fun hg284 => ?_) (fun hg284 => ?_)
       ·
        obtain ⟨-, hst, -⟩ := hle
        refine StepOp_plain (op_move (v := (Value.bool (decide (value_1.2 ≠ 0)))) (ht 58 rfl) ?_)
        exact Goes.same hi rfl
       ·
        replace hm := bif_t hm hg284
        refine Dw_skip (fun _ _ _ ht => wanted_x rfl (ht 59 rfl) rfl) ?_
        refine Dw_skip (fun _ _ _ ht => wanted_x rfl (ht 59 rfl) rfl) ?_
        refine Dw_eq (Value.bool true) (fun ρ285 w286 g hle hi ht => ?_) ?_
        ·
         obtain ⟨-, hst, -⟩ := hle
         refine StepOp_plain (op_pick_t (v := (Value.bool true)) (ht 59 rfl) rfl ?_)
         exact Goes.same hi rfl
        refine Dw_eq (Value.bool true) (fun ρ288 w289 g hle hi ht => ?_) ?_
        ·
         obtain ⟨-, hst, -⟩ := hle
         refine StepOp_plain (op_move (v := (Value.bool true)) (ht 62 rfl) ?_)
         exact Goes.same hi rfl
        refine Dw_skip (fun _ _ _ ht => wanted_x rfl (ht 63 rfl) rfl) ?_
        refine Dw_skip (fun _ _ _ ht => wanted_x rfl (ht 63 rfl) rfl) ?_
        refine Dw_eq (Value.bool true) (fun ρ291 w292 g hle hi ht => ?_) ?_
        ·
         obtain ⟨-, hst, -⟩ := hle
         refine StepOp_plain (op_pick_t (v := (Value.bool true)) (ht 63 rfl) rfl ?_)
         exact Goes.same hi rfl
        refine Dw_eq (Value.bool true) (fun ρ294 w295 g hle hi ht => ?_) ?_
        ·
         obtain ⟨-, hst, -⟩ := hle
         refine StepOp_plain (op_move (v := (Value.bool true)) (ht 66 rfl) ?_)
         exact Goes.same hi rfl
        refine Dw_skip (fun _ _ _ ht => wanted_x rfl (ht 67 rfl) rfl) ?_
        refine Dw_skip (fun _ _ _ ht => wanted_x rfl (ht 67 rfl) rfl) ?_
        refine Dw_skip (fun _ _ _ ht => wanted_x rfl (ht 67 rfl) rfl) ?_
        refine Dw_skip (fun _ _ _ ht => wanted_x rfl (ht 67 rfl) rfl) ?_
        refine Dw_skip (fun _ _ _ ht => wanted_x rfl (ht 67 rfl) rfl) ?_
        refine Dw_skip (fun _ _ _ ht => wanted_x rfl (ht 67 rfl) rfl) ?_
        refine Dw_nil fun w301 g302 hl303 hi304 => ?_
        obtain ⟨-, hst305, -⟩ := hl303
        obtain ⟨hs307, p306⟩ := Step.nx hi304
        rintro _ rfl
        rintro _ rfl
        rintro _ rfl
        rintro _ rfl
        rintro _ rfl
        rintro _ rfl
        rintro _ rfl
        rintro _ rfl
        rintro _ rfl
        rintro _ rfl
        rintro _ rfl
        rintro _ rfl
        rintro _ rfl
        rintro _ rfl
        rintro _ rfl
        rintro _ rfl
        rintro _ rfl
        have p308 : Step (ks [(some b1, Obj.cells [(Value.int .i64 r_.slots), (Value.slice a_r__owners r_.owners.length c_r__owners), (Value.slice a_r__costs r_.costs.length c_r__costs)].toArray 25)] O) w109 (ks [(some b1, Obj.cells [(Value.int .i64 r_.slots), (Value.slice a_r__owners r_.owners.length c_r__owners), (Value.slice a_r__costs r_.costs.length c_r__costs)].toArray 25)] O) w301 := hst305.trans p306
        replace f_r__owners := f_r__owners.step p308; replace f_r__costs := f_r__costs.step p308; replace f_y89 := f_y89.step p308; replace f_y105 := f_y105.step p308; replace f_y118 := f_y118.step p308; replace ch60 := ch60.trans p308; replace ch274 := ch274.trans p308; clear p308 hs112
        refine Rg_opx rfl (asB_ne rfl rfl) rfl ?_
        refine Rg_op rfl (op_pick_t (v := (Value.bool true)) rfl rfl ?_)
        refine Rg_nil ?_
        exact hK124 _ _ ⟨true, _, rfl, ⟨(by repeat (first | with_reducible exact Out.refl _ _ | refine Out.upd ?_ rfl | refine Out.updL ?_ rfl | refine Out.mix' ?_ rfl | exact Out.refl _ _)), rfl, rfl, trivial⟩, ch274, hs307, hm⟩
       ·
        replace hm := bif_f hm hg284
        refine Dw_eq (Value.int .i64 value_2.2) (fun ρ309 w310 g hle hi ht => ?_) ?_
        ·
         obtain ⟨-, hst, -⟩ := hle
         refine StepOp_g rfl (ht 59 rfl) (op_move (v := (Value.int .i64 value_2.2)) (ht 10 rfl) ?_)
         exact Goes.same hi rfl
        refine Dw_eq (Value.bool (decide (value_2.2 ≠ 0))) (fun ρ312 w313 g hle hi ht => ?_) ?_
        ·
         obtain ⟨-, hst, -⟩ := hle
         refine StepOp_g rfl (ht 59 rfl) (op_neq (ht 60 rfl) rfl ?_)
         exact Goes.same hi rfl
        refine Dw_eq (Value.bool (decide (value_2.2 ≠ 0))) (fun ρ315 w316 g hle hi ht => ?_) ?_
        ·
         obtain ⟨-, hst, -⟩ := hle
         refine StepOp_plain (op_pick_f (v := (Value.bool (decide (value_2.2 ≠ 0)))) (ht 59 rfl) (ht 61 rfl) ?_)
         exact Goes.same hi rfl
        refine Dw_opB (decide (value_2.2 ≠ 0)) (fun ρ318 w319 g hle hi ht => ?_) (fun hg321 => ?_) (fun hg321 => ?_)
        ·
         obtain ⟨-, hst, -⟩ := hle
         refine StepOp_plain (op_move (v := (Value.bool (decide (value_2.2 ≠ 0)))) (ht 62 rfl) ?_)
         exact Goes.same hi rfl
        ·
         replace hm := bif_t hm hg321
         refine Dw_skip (fun _ _ _ ht => wanted_x rfl (ht 63 rfl) rfl) ?_
         refine Dw_skip (fun _ _ _ ht => wanted_x rfl (ht 63 rfl) rfl) ?_
         refine Dw_eq (Value.bool true) (fun ρ322 w323 g hle hi ht => ?_) ?_
         ·
          obtain ⟨-, hst, -⟩ := hle
          refine StepOp_plain (op_pick_t (v := (Value.bool true)) (ht 63 rfl) rfl ?_)
          exact Goes.same hi rfl
         refine Dw_eq (Value.bool true) (fun ρ325 w326 g hle hi ht => ?_) ?_
         ·
          obtain ⟨-, hst, -⟩ := hle
          refine StepOp_plain (op_move (v := (Value.bool true)) (ht 66 rfl) ?_)
          exact Goes.same hi rfl
         refine Dw_skip (fun _ _ _ ht => wanted_x rfl (ht 67 rfl) rfl) ?_
         refine Dw_skip (fun _ _ _ ht => wanted_x rfl (ht 67 rfl) rfl) ?_
         refine Dw_skip (fun _ _ _ ht => wanted_x rfl (ht 67 rfl) rfl) ?_
         refine Dw_skip (fun _ _ _ ht => wanted_x rfl (ht 67 rfl) rfl) ?_
         refine Dw_skip (fun _ _ _ ht => wanted_x rfl (ht 67 rfl) rfl) ?_
         refine Dw_skip (fun _ _ _ ht => wanted_x rfl (ht 67 rfl) rfl) ?_
         refine Dw_nil fun w332 g333 hl334 hi335 => ?_
         obtain ⟨-, hst336, -⟩ := hl334
         obtain ⟨hs338, p337⟩ := Step.nx hi335
         rintro _ rfl
         rintro _ rfl
         rintro _ rfl
         rintro _ rfl
         rintro _ rfl
         rintro _ rfl
         rintro _ rfl
         rintro _ rfl
         rintro _ rfl
         rintro _ rfl
         rintro _ rfl
         rintro _ rfl
         rintro _ rfl
         rintro _ rfl
         rintro _ rfl
         rintro _ rfl
         rintro _ rfl
         have p339 : Step (ks [(some b1, Obj.cells [(Value.int .i64 r_.slots), (Value.slice a_r__owners r_.owners.length c_r__owners), (Value.slice a_r__costs r_.costs.length c_r__costs)].toArray 25)] O) w109 (ks [(some b1, Obj.cells [(Value.int .i64 r_.slots), (Value.slice a_r__owners r_.owners.length c_r__owners), (Value.slice a_r__costs r_.costs.length c_r__costs)].toArray 25)] O) w332 := hst336.trans p337
         replace f_r__owners := f_r__owners.step p339; replace f_r__costs := f_r__costs.step p339; replace f_y89 := f_y89.step p339; replace f_y105 := f_y105.step p339; replace f_y118 := f_y118.step p339; replace ch60 := ch60.trans p339; replace ch274 := ch274.trans p339; clear p339 hs112
         refine Rg_opx rfl (asB_ne rfl rfl) rfl ?_
         refine Rg_op rfl (op_pick_t (v := (Value.bool true)) rfl rfl ?_)
         refine Rg_nil ?_
         exact hK124 _ _ ⟨true, _, rfl, ⟨(by repeat (first | with_reducible exact Out.refl _ _ | refine Out.upd ?_ rfl | refine Out.updL ?_ rfl | refine Out.mix' ?_ rfl | exact Out.refl _ _)), rfl, rfl, trivial⟩, ch274, hs338, hm⟩
        ·
         replace hm := bif_f hm hg321
         refine Dw_eq (Value.int .i64 costs_1.2) (fun ρ340 w341 g hle hi ht => ?_) ?_
         ·
          obtain ⟨-, hst, -⟩ := hle
          refine StepOp_g rfl (ht 63 rfl) (op_move (v := (Value.int .i64 costs_1.2)) (ht 12 rfl) ?_)
          exact Goes.same hi rfl
         refine Dw_eq (Value.bool (decide (costs_1.2 ≠ 0))) (fun ρ343 w344 g hle hi ht => ?_) ?_
         ·
          obtain ⟨-, hst, -⟩ := hle
          refine StepOp_g rfl (ht 63 rfl) (op_neq (ht 64 rfl) rfl ?_)
          exact Goes.same hi rfl
         refine Dw_eq (Value.bool (decide (costs_1.2 ≠ 0))) (fun ρ346 w347 g hle hi ht => ?_) ?_
         ·
          obtain ⟨-, hst, -⟩ := hle
          refine StepOp_plain (op_pick_f (v := (Value.bool (decide (costs_1.2 ≠ 0)))) (ht 63 rfl) (ht 65 rfl) ?_)
          exact Goes.same hi rfl
         refine Dw_opB (decide (costs_1.2 ≠ 0)) (fun ρ349 w350 g hle hi ht => ?_) (fun hg352 => ?_) (fun hg352 => ?_)
         ·
          obtain ⟨-, hst, -⟩ := hle
          refine StepOp_plain (op_move (v := (Value.bool (decide (costs_1.2 ≠ 0)))) (ht 66 rfl) ?_)
          exact Goes.same hi rfl
         ·
          replace hm := bif_t hm hg352
          refine Dw_skip (fun _ _ _ ht => wanted_x rfl (ht 67 rfl) rfl) ?_
          refine Dw_skip (fun _ _ _ ht => wanted_x rfl (ht 67 rfl) rfl) ?_
          refine Dw_skip (fun _ _ _ ht => wanted_x rfl (ht 67 rfl) rfl) ?_
          refine Dw_skip (fun _ _ _ ht => wanted_x rfl (ht 67 rfl) rfl) ?_
          refine Dw_skip (fun _ _ _ ht => wanted_x rfl (ht 67 rfl) rfl) ?_
          refine Dw_skip (fun _ _ _ ht => wanted_x rfl (ht 67 rfl) rfl) ?_
          refine Dw_nil fun w357 g358 hl359 hi360 => ?_
          obtain ⟨-, hst361, -⟩ := hl359
          obtain ⟨hs363, p362⟩ := Step.nx hi360
          rintro _ rfl
          rintro _ rfl
          rintro _ rfl
          rintro _ rfl
          rintro _ rfl
          rintro _ rfl
          rintro _ rfl
          rintro _ rfl
          rintro _ rfl
          rintro _ rfl
          rintro _ rfl
          rintro _ rfl
          rintro _ rfl
          rintro _ rfl
          rintro _ rfl
          rintro _ rfl
          rintro _ rfl
          have p364 : Step (ks [(some b1, Obj.cells [(Value.int .i64 r_.slots), (Value.slice a_r__owners r_.owners.length c_r__owners), (Value.slice a_r__costs r_.costs.length c_r__costs)].toArray 25)] O) w109 (ks [(some b1, Obj.cells [(Value.int .i64 r_.slots), (Value.slice a_r__owners r_.owners.length c_r__owners), (Value.slice a_r__costs r_.costs.length c_r__costs)].toArray 25)] O) w357 := hst361.trans p362
          replace f_r__owners := f_r__owners.step p364; replace f_r__costs := f_r__costs.step p364; replace f_y89 := f_y89.step p364; replace f_y105 := f_y105.step p364; replace f_y118 := f_y118.step p364; replace ch60 := ch60.trans p364; replace ch274 := ch274.trans p364; clear p364 hs112
          refine Rg_opx rfl (asB_ne rfl rfl) rfl ?_
          refine Rg_op rfl (op_pick_t (v := (Value.bool true)) rfl rfl ?_)
          refine Rg_nil ?_
          exact hK124 _ _ ⟨true, _, rfl, ⟨(by repeat (first | with_reducible exact Out.refl _ _ | refine Out.upd ?_ rfl | refine Out.updL ?_ rfl | refine Out.mix' ?_ rfl | exact Out.refl _ _)), rfl, rfl, trivial⟩, ch274, hs363, hm⟩
         ·
          replace hm := bif_f hm hg352
          refine Dw_eq (Value.slice a_y89 value_1.1.length c_y89) (fun ρ365 w366 g hle hi ht => ?_) ?_
          ·
           obtain ⟨-, hst, -⟩ := hle
           refine StepOp_g rfl (ht 67 rfl) (op_move (v := (Value.slice a_y89 value_1.1.length c_y89)) (ht 7 rfl) ?_)
           exact Goes.same hi rfl
          replace hm := ck_some hm; obtain ⟨hc371, hm⟩ := hm
          refine Dw_op (VP O [(some b1, Obj.cells [(Value.int .i64 r_.slots), (Value.slice a_r__owners r_.owners.length c_r__owners), (Value.slice a_r__costs r_.costs.length c_r__costs)].toArray 25)] (rInt .i64) (value_1.1.getD 0 default)) (VP.stab _ _) (fun ρ368 w369 g hle hi ht => ?_) ?_
          ·
           obtain ⟨-, hst, -⟩ := hle
           replace f_y89 := f_y89.step hst
           refine StepOp_g rfl (ht 67 rfl) (op_indexAddr (q := (rInt .i64)) ty22 ty3 (ht 68 rfl) rfl f_y89 rfl hc371.1 hc371.2 ?_)
           intro p372 f373
           exact Goes.same hi ⟨_, rfl, f373⟩
          refine Dw_op (VD O [(some b1, Obj.cells [(Value.int .i64 r_.slots), (Value.slice a_r__owners r_.owners.length c_r__owners), (Value.slice a_r__costs r_.costs.length c_r__costs)].toArray 25)] (vI .i64) (value_1.1.getD 0 default)) (VD.stab _ _) (fun ρ374 w375 g hle hi ht => ?_) ?_
          ·
           obtain ⟨-, hst, -⟩ := hle
           obtain ⟨p377, q378, f379⟩ := ht 69 rfl
           refine StepOp_g rfl (ht 67 rfl) (op_loadP ty3 q378 f379 rfl ?_)
           intro v380 h381
           obtain ⟨rfl, r_y382⟩ := un_int h381
           exact Goes.same hi (show Vr.vd (vI .i64) _ _ _ _ from ⟨rfl, r_y382⟩)
          refine Dw_eq (Value.slice a_y105 value_2.1.length c_y105) (fun ρ383 w384 g hle hi ht => ?_) ?_
          ·
           obtain ⟨-, hst, -⟩ := hle
           refine StepOp_g rfl (ht 67 rfl) (op_move (v := (Value.slice a_y105 value_2.1.length c_y105)) (ht 9 rfl) ?_)
           exact Goes.same hi rfl
          replace hm := ck_some hm; obtain ⟨hc389, hm⟩ := hm
          refine Dw_op (VP O [(some b1, Obj.cells [(Value.int .i64 r_.slots), (Value.slice a_r__owners r_.owners.length c_r__owners), (Value.slice a_r__costs r_.costs.length c_r__costs)].toArray 25)] (rInt .i64) (value_2.1.getD 0 default)) (VP.stab _ _) (fun ρ386 w387 g hle hi ht => ?_) ?_
          ·
           obtain ⟨-, hst, -⟩ := hle
           replace f_y105 := f_y105.step hst
           refine StepOp_g rfl (ht 67 rfl) (op_indexAddr (q := (rInt .i64)) ty22 ty3 (ht 71 rfl) rfl f_y105 rfl hc389.1 hc389.2 ?_)
           intro p390 f391
           exact Goes.same hi ⟨_, rfl, f391⟩
          refine Dw_op (VD O [(some b1, Obj.cells [(Value.int .i64 r_.slots), (Value.slice a_r__owners r_.owners.length c_r__owners), (Value.slice a_r__costs r_.costs.length c_r__costs)].toArray 25)] (vI .i64) (value_2.1.getD 0 default)) (VD.stab _ _) (fun ρ392 w393 g hle hi ht => ?_) ?_
          ·
           obtain ⟨-, hst, -⟩ := hle
           obtain ⟨p395, q396, f397⟩ := ht 72 rfl
           refine StepOp_g rfl (ht 67 rfl) (op_loadP ty3 q396 f397 rfl ?_)
           intro v398 h399
           obtain ⟨rfl, r_y400⟩ := un_int h399
           exact Goes.same hi (show Vr.vd (vI .i64) _ _ _ _ from ⟨rfl, r_y400⟩)
          refine Dw_nil fun w405 g406 hl407 hi408 => ?_
          obtain ⟨-, hst409, -⟩ := hl407
          obtain ⟨hs411, p410⟩ := Step.nx hi408
          rintro v412 h413
          replace h413 : Vr.vd (vI .i64) _ _ _ _ := h413
          obtain ⟨rfl, r_y414⟩ := h413
          rintro _ ⟨p415, rfl, f416⟩
          rintro _ rfl
          rintro v417 h418
          replace h418 : Vr.vd (vI .i64) _ _ _ _ := h418
          obtain ⟨rfl, r_y419⟩ := h418
          rintro _ ⟨p420, rfl, f421⟩
          rintro _ rfl
          rintro _ rfl
          rintro _ rfl
          rintro _ rfl
          rintro _ rfl
          rintro _ rfl
          rintro _ rfl
          rintro _ rfl
          rintro _ rfl
          rintro _ rfl
          rintro _ rfl
          rintro _ rfl
          have p422 : Step (ks [(some b1, Obj.cells [(Value.int .i64 r_.slots), (Value.slice a_r__owners r_.owners.length c_r__owners), (Value.slice a_r__costs r_.costs.length c_r__costs)].toArray 25)] O) w109 (ks [(some b1, Obj.cells [(Value.int .i64 r_.slots), (Value.slice a_r__owners r_.owners.length c_r__owners), (Value.slice a_r__costs r_.costs.length c_r__costs)].toArray 25)] O) w405 := hst409.trans p410
          replace f416 := f416.step p410; replace f421 := f421.step p410; replace f_r__owners := f_r__owners.step p422; replace f_r__costs := f_r__costs.step p422; replace f_y89 := f_y89.step p422; replace f_y105 := f_y105.step p422; replace f_y118 := f_y118.step p422; replace ch60 := ch60.trans p422; replace ch274 := ch274.trans p422; clear p422 hs112
          refine Rg_opg rfl rfl rfl (op_gtr rfl rfl ?_)
          refine Rg_op rfl (op_pick_f (v := (Value.bool (decide ((value_2.1.getD 0 default) < (value_1.1.getD 0 default))))) rfl rfl ?_)
          refine Rg_nil ?_
          exact hK124 _ _ ⟨(decide ((value_2.1.getD 0 default) < (value_1.1.getD 0 default))), _, rfl, ⟨(by repeat (first | with_reducible exact Out.refl _ _ | refine Out.upd ?_ rfl | refine Out.updL ?_ rfl | refine Out.mix' ?_ rfl | exact Out.refl _ _)), rfl, rfl, trivial⟩, ch274, hs411, hm⟩

end Go.Fx



/- What the models of functions compute: loops over lists, checks, meetings. No program in sight. -/
set_option linter.unusedSimpArgs false
set_option linter.unusedVariables false
namespace Go.Fx
open Go Go.RowKit

section
variable {R α σ : Type}
@[simp] theorem jn_eq {κ : Type _} (k : κ) (f : κ → Option R) : jn k f = f k := rfl
theorem ck_eq {c : Prop} [Decidable c] {m : Option R} (h : c) : ck c m = m := if_pos h
@[simp] theorem ck_True {m : Option R} : ck True m = m := if_pos trivial
theorem wrapN {i : Nat} (h : i < 9223372036854775808) : IntKind.i64.wrap (i : Int) = (i : Int) := wrap_i64 (by omega) (by omega)
theorem wrapS {i : Nat} (h : i + 1 < 9223372036854775808) : IntKind.i64.wrap ((i : Int) + 1) = (i : Int) + 1 := wrap_i64 (by omega) (by omega)
/-- a loop that goes up an index over a list: L fuel index state -/
theorem up_list {L : Nat → Int → σ → Option R} (I : Nat → σ → Prop) (F : Nat → List α → σ → Option R) (l : List α) (hl : l.length < 9223372036854775807)
    (hE : ∀ n s, I l.length s → L (n + 1) (l.length : Nat) s = F l.length [] s)
    (hS : ∀ n (i : Nat) s x t, i < l.length → l[i]? = some x → IntKind.i64.wrap ((i : Int) + 1) = (i : Int) + 1 → I i s →
      (∀ s, I (i + 1) s → L n ((i : Int) + 1) s = F (i + 1) t s) → L (n + 1) (i : Int) s = F i (x :: t) s) :
    ∀ (fuel : Nat) s, l.length < fuel → I 0 s → L fuel 0 s = F 0 l s := by
  have main : ∀ (t : List α) (i fuel : Nat) s, l.drop i = t → i ≤ l.length → l.length - i < fuel → I i s → L fuel (i : Int) s = F i t s := by
    intro t
    induction t with
    | nil =>
      intro i fuel s hd hi hf hI
      have : i = l.length := by have := congrArg List.length hd; simp at this; omega
      subst this
      obtain ⟨n, rfl⟩ : ∃ n, fuel = n + 1 := ⟨fuel - 1, by omega⟩
      exact hE n s hI
    | cons x t ih =>
      intro i fuel s hd hi hf hI
      have hlt : i < l.length := by have := congrArg List.length hd; simp at this; omega
      obtain ⟨n, rfl⟩ : ∃ n, fuel = n + 1 := ⟨fuel - 1, by omega⟩
      have hx : l[i]? = some x := by rw [← List.head?_drop, hd]; rfl
      refine hS n i s x t hlt hx (wrapS (by omega)) hI fun s' hI' => (ih (i + 1) n s' ?_ (by omega) (by omega) hI')
      rw [← List.drop_drop, hd]; rfl
  intro fuel s hf hI
  exact main l 0 fuel s rfl (by omega) (by omega) hI

theorem getD_of {l : List α} {i : Nat} {x d : α} (h : l[i]? = some x) : l.getD i d = x := by simp [List.getD, h]

/-- a loop that goes up an index over a list, no state -/
theorem up_list0 {B : (Int → Option R) → Int → Option R} (F : List α → Option R) (l : List α) (hl : l.length < 9223372036854775807)
    (hE : ∀ sf, B sf (l.length : Nat) = F [])
    (hS : ∀ sf (i : Nat) x t, i < l.length → l[i]? = some x → IntKind.i64.wrap ((i : Int) + 1) = (i : Int) + 1 →
      sf ((i : Int) + 1) = F t → B sf (i : Int) = F (x :: t))
    {fuel : Nat} (hf : l.length < fuel) : loop1 B fuel 0 = F l := by
  refine up_list (L := fun n i (_ : Unit) => loop1 B n i) (fun _ _ => True) (fun _ t _ => F t) l hl ?_ ?_ fuel () hf trivial
  · intro n _ _; show loop1 B (n + 1) _ = _; rw [loop1_succ]; exact hE _
  · intro n i _ x t h1 h2 h3 _ ih; show loop1 B (n + 1) _ = _; rw [loop1_succ]; exact hS _ i x t h1 h2 h3 (ih () trivial)
/-- index first, then a state -/
theorem up_listA {B : (Int → σ → Option R) → Int → σ → Option R} (I : Nat → σ → Prop) (F : Nat → List α → σ → Option R) (l : List α) (hl : l.length < 9223372036854775807)
    (hE : ∀ sf s, I l.length s → B sf (l.length : Nat) s = F l.length [] s)
    (hS : ∀ sf (i : Nat) s x t, i < l.length → l[i]? = some x → IntKind.i64.wrap ((i : Int) + 1) = (i : Int) + 1 → I i s →
      (∀ s, I (i + 1) s → sf ((i : Int) + 1) s = F (i + 1) t s) → B sf (i : Int) s = F i (x :: t) s)
    {fuel : Nat} {s : σ} (hf : l.length < fuel) (hI : I 0 s) : loop2 B fuel 0 s = F 0 l s := by
  refine up_list (L := fun n i s => loop2 B n i s) I F l hl ?_ ?_ fuel s hf hI
  · intro n s h; show loop2 B (n + 1) _ _ = _; rw [loop2_succ]; exact hE _ _ h
  · intro n i s x t h1 h2 h3 h4 ih; show loop2 B (n + 1) _ _ = _; rw [loop2_succ]; exact hS _ i s x t h1 h2 h3 h4 ih
/-- a state first, then the index -/
theorem up_listB {B : (σ → Int → Option R) → σ → Int → Option R} (I : Nat → σ → Prop) (F : Nat → List α → σ → Option R) (l : List α) (hl : l.length < 9223372036854775807)
    (hE : ∀ sf s, I l.length s → B sf s (l.length : Nat) = F l.length [] s)
    (hS : ∀ sf (i : Nat) s x t, i < l.length → l[i]? = some x → IntKind.i64.wrap ((i : Int) + 1) = (i : Int) + 1 → I i s →
      (∀ s, I (i + 1) s → sf s ((i : Int) + 1) = F (i + 1) t s) → B sf s (i : Int) = F i (x :: t) s)
    {fuel : Nat} {s : σ} (hf : l.length < fuel) (hI : I 0 s) : loop2 B fuel s 0 = F 0 l s := by
  refine up_list (L := fun n i s => loop2 B n s i) I F l hl ?_ ?_ fuel s hf hI
  · intro n s h; show loop2 B (n + 1) _ _ = _; rw [loop2_succ]; exact hE _ _ h
  · intro n i s x t h1 h2 h3 h4 ih; show loop2 B (n + 1) _ _ = _; rw [loop2_succ]; exact hS _ i s x t h1 h2 h3 h4 ih

/-- the same, where the answer needs the index -/
theorem up_listI {B : (Int → Option R) → Int → Option R} (F : Nat → List α → Option R) (l : List α) (hl : l.length < 9223372036854775807)
    (hE : ∀ sf, B sf (l.length : Nat) = F l.length [])
    (hS : ∀ sf (i : Nat) x t, i < l.length → l[i]? = some x → IntKind.i64.wrap ((i : Int) + 1) = (i : Int) + 1 →
      sf ((i : Int) + 1) = F (i + 1) t → B sf (i : Int) = F i (x :: t))
    {fuel : Nat} (hf : l.length < fuel) : loop1 B fuel 0 = F 0 l := by
  refine up_list (L := fun n i (_ : Unit) => loop1 B n i) (fun _ _ => True) (fun i t _ => F i t) l hl ?_ ?_ fuel () hf trivial
  · intro n _ _; show loop1 B (n + 1) _ = _; rw [loop1_succ]; exact hE _
  · intro n i _ x t h1 h2 h3 _ ih; show loop1 B (n + 1) _ = _; rw [loop1_succ]; exact hS _ i x t h1 h2 h3 (ih () trivial)
end
end Go.Fx



/- Chapter 37, no program in sight: all exchanges of some flights, in order. -/
set_option linter.unusedSimpArgs false
set_option linter.unusedVariables false
namespace Go.Fx
open Go Go.RowKit
/-- all ways to go on from b with k more, out of fl, all different, allowed at their place -/
def dv (fl : List Int) (ok : Nat → Int → Bool) : Nat → List Int → List (List Int)
  | 0, b => [b]
  | k + 1, b => fl.flatMap fun s => bif ok b.length s && !b.contains s then dv fl ok k (b ++ [s]) else []
/-- t may follow b -/
def gd (fl : List Int) (ok : Nat → Int → Bool) : List Int → List Int → Prop
  | _, [] => True
  | b, s :: t => s ∈ fl ∧ ok b.length s = true ∧ s ∉ b ∧ gd fl ok (b ++ [s]) t
theorem mem_dv {fl : List Int} {ok : Nat → Int → Bool} : ∀ {k : Nat} {b x : List Int}, x ∈ dv fl ok k b ↔ ∃ t, x = b ++ t ∧ t.length = k ∧ gd fl ok b t := by
  intro k
  induction k with
  | zero =>
    intro b x
    simp only [dv, List.mem_singleton]
    constructor
    · rintro rfl; exact ⟨[], by simp, rfl, trivial⟩
    · rintro ⟨t, rfl, ht, _⟩; rw [List.length_eq_zero_iff.1 ht]; simp
  | succ k ih =>
    intro b x
    simp only [dv, List.mem_flatMap]
    constructor
    · rintro ⟨s, hs, hx⟩
      cases hc : (ok b.length s && !b.contains s)
      · rw [hc] at hx; cases hx
      · rw [hc, cond_true, ih] at hx
        obtain ⟨t, rfl, ht, hg⟩ := hx
        simp only [Bool.and_eq_true, Bool.not_eq_true', List.contains_eq_mem, decide_eq_false_iff_not] at hc
        exact ⟨s :: t, by simp, by simp [ht], hs, hc.1, hc.2, hg⟩
    · rintro ⟨t, rfl, ht, hg⟩
      cases t with
      | nil => cases ht
      | cons s t =>
        obtain ⟨h1, h2, h3, h4⟩ := hg
        refine ⟨s, h1, ?_⟩
        have hc : (ok b.length s && !b.contains s) = true := by simp [h2, h3]
        rw [hc, cond_true, ih]
        exact ⟨t, by simp, by simpa using ht, h4⟩
/-- the sum of what belongs to o -/
def csum (own : Int → Int) (cost : Int → Int → Int) (o : Int) : List (Int × Int) → Int
  | [] => 0
  | (f, s) :: t => (if own f = o then cost f s else 0) + csum own cost o t
theorem csum_append (own : Int → Int) (cost : Int → Int → Int) (o : Int) (l m : List (Int × Int)) : csum own cost o (l ++ m) = csum own cost o l + csum own cost o m := by
  induction l with
  | nil => simp [csum]
  | cons p t ih => obtain ⟨f, s⟩ := p; simp only [List.cons_append, csum, ih]; omega
end Go.Fx



/- The plain laws of chapter 37: what the functions compute. -/
set_option linter.unusedSimpArgs false
set_option linter.unusedVariables false
namespace Go.Fx
open Go Go.RowKit
theorem all_range' {p : Nat → Bool} (i n : Nat) : (List.range' i (n + 1)).all p = (p i && (List.range' (i + 1) n).all p) := by rw [List.range'_succ]; rfl
theorem all_range {p : Nat → Bool} (n : Nat) : (List.range n).all p = (List.range' 0 n).all p := by rw [List.range_eq_range']
/-- the first index from i where g holds, or -1 -/
def fidx {α} (g : α → Bool) : Nat → List α → Int
  | _, [] => -1
  | i, x :: t => bif g x then (i : Int) else fidx g (i + 1) t
theorem fidx_any {α} (g : α → Bool) (l : List α) (i : Nat) : decide (0 ≤ fidx g i l) = l.any g := by
  induction l generalizing i with
  | nil => rfl
  | cons x t ih => cases h : g x <;> simp [fidx, h, ih]
theorem m51_eq (s : List Int) (f : Int → Option Bool) (g : Int → Bool) (hf : ∀ x ∈ s, f x = some (g x)) (hl : s.length < 9223372036854775807) : m51_slices_ContainsFuncint_int_ s f = some (s.any g) := by
  have : m70_slices_IndexFuncint_int_ s f = some (fidx g 0 s) := by
    unfold m70_slices_IndexFuncint_int_
    refine up_listI (fun i t => some (fidx g i t)) s hl ?_ ?_ (by omega)
    · intro sf; unfold m70_slices_IndexFuncint_int__B0; simp [fidx]
    · intro sf i x t h1 h2 h3 ih; unfold m70_slices_IndexFuncint_int__B0; obtain ⟨_, rfl⟩ := List.getElem?_eq_some_iff.1 h2
      have hfi := hf s[i] (List.getElem_mem _)
      cases h : g s[i] <;> simp [h1, h3, ih, hfi, h, fidx, ck_eq]
  unfold m51_slices_ContainsFuncint_int_; rw [this]; simp [fidx_any]
theorem m48_eq (s : List Int) (v : Int) (hl : s.length < 9223372036854775807) : m48_slices_Containsint_int_ s v = some (s.any fun x => decide (v = x)) := by
  have : m68_slices_Indexint_int_ s v = some (fidx (fun x => decide (v = x)) 0 s) := by
    unfold m68_slices_Indexint_int_
    refine up_listI (fun i t => some (fidx (fun x => decide (v = x)) i t)) s hl ?_ ?_ (by omega)
    · intro sf; unfold m68_slices_Indexint_int__B0; simp [fidx]
    · intro sf i x t h1 h2 h3 ih; unfold m68_slices_Indexint_int__B0; obtain ⟨_, rfl⟩ := List.getElem?_eq_some_iff.1 h2
      by_cases h : v = s[i]
      · have g1 : s.getD (i : Int).toNat default = s[i] := by simp [h1]
        simp only [show (i : Int) < (s.length : Int) by omega, decide_true, cond_true, g1]
        rw [ck_eq (by simp)]; simp [← h, fidx]
      · simp [h1, h3, ih, h, fidx, ck_eq]
  unfold m48_slices_Containsint_int_; rw [this]; simp [fidx_any]
def badC (c : Int) : Bool := decide (c < -1) || decide (1048576 < c)
theorem m52_eq (c : Int) (hc : InK .i64 c) : m52_coalition_Check_2 c (fun x24 x25 => m50_coalition_Check_1 x24 x25) = some (badC c) := by
  have h1 := hc.1; have h2 := hc.2
  simp [IntKind.min, IntKind.max, IntKind.signed, IntKind.bits] at h1 h2
  unfold m52_coalition_Check_2 m50_coalition_Check_1 badC
  by_cases hm : c = 9223372036854775807
  · subst hm; rfl
  · have w : IntKind.i64.wrap (c + 1) = c + 1 := wrap_i64 (by omega) (by omega)
    rw [w]
    by_cases k1 : c < -1
    · have : c + 1 < 0 := by omega
      simp [k1, this]
    · have : ¬ c + 1 < 0 := by omega
      have e : (1048577 < c + 1) = (1048576 < c) := by apply propext; omega
      simp only [k1, this, e, decide_false, cond_false, Bool.false_or, Option.bind_some]
/-- flight i of a round is not as it should be -/
def rowBad (r : XRound) (i : Nat) : Bool :=
  (decide (r.owners.getD i default < 0) || decide (7 < r.owners.getD i default)) || (!decide (((r.costs.getD i default).length : Int) = r.slots) || (decide ((r.costs.getD i default).getD i default < 0) || (r.costs.getD i default).any badC))
def shapeB (r : XRound) : Bool := !(decide (r.slots < 1) || (decide (8 < r.slots) || (decide (r.slots < (r.owners.length : Int)) || decide ((r.costs.length : Int) ≠ (r.owners.length : Int)))))
/-- what Check answers -/
def valB (r : XRound) : Bool := shapeB r && (List.range r.owners.length).all fun i => !rowBad r i
theorem shape_props {r : XRound} (h : shapeB r = true) : 1 ≤ r.slots ∧ r.slots ≤ 8 ∧ (r.owners.length : Int) ≤ r.slots ∧ r.costs.length = r.owners.length := by
  unfold shapeB at h; simp at h; omega
theorem m25_eq (r : XRound) (hs : smXRound r) : m25_coalition_Check r = some (bif valB r then 0 else 370) := by
  have hcl : r.costs.length < 9223372036854775807 := by have := hs.2.2.1; omega
  unfold m25_coalition_Check
  have main : shapeB r = true → loop1 (m25_coalition_Check_B0 r) (((r.costs.length : Int) - 0).toNat + 1) 0 = some (bif (List.range r.owners.length).all (fun i => !rowBad r i) then 0 else 370) := by
    intro hsh
    obtain ⟨s1, s2, s3, s4⟩ := shape_props hsh
    rw [all_range, ← s4]
    refine up_listI (fun i t => some (bif (List.range' i t.length).all (fun i => !rowBad r i) then 0 else 370)) r.costs hcl ?_ ?_ (show r.costs.length < ((r.costs.length : Int) - 0).toNat + 1 by omega)
    · intro sf; unfold m25_coalition_Check_B0; simp
    · intro sf i x t h1 h2 h3 ih
      have g0 : r.costs.getD (i : Int).toNat default = r.costs.getD i default := rfl
      have g1 : r.owners.getD (i : Int).toNat default = r.owners.getD i default := rfl
      have g2 : (r.costs.getD i default).getD (i : Int).toNat default = (r.costs.getD i default).getD i default := rfl
      have hrow : r.costs.getD i default ∈ r.costs := by rw [show r.costs.getD i default = r.costs[i] from by simp [h1]]; exact List.getElem_mem _
      have hrl := (hs.2.2.2 _ hrow)
      rw [List.length_cons, all_range']
      unfold m25_coalition_Check_B0
      have c1 : (i : Int) < (r.costs.length : Int) := by omega
      simp only [c1, decide_true, cond_true, jn_eq, g0, g1, g2, h3, ih]
      rw [ck_eq (by simp), ck_eq (by omega)]
      have m45 := m51_eq (r.costs.getD i default) (fun x286 => m52_coalition_Check_2 x286 (fun x24 x25 => m50_coalition_Check_1 x24 x25)) badC (fun x hx => m52_eq x (hrl.2 x hx)) (by have := hrl.1; omega)
      rw [m45]
      have hb : rowBad r i = ((decide (r.owners.getD i default < 0) || decide (7 < r.owners.getD i default)) || (!decide (((r.costs.getD i default).length : Int) = r.slots) || (decide ((r.costs.getD i default).getD i default < 0) || (r.costs.getD i default).any badC))) := rfl
      rw [hb]
      generalize (List.range' (i + 1) t.length).all (fun i => !rowBad r i) = rest
      clear hb ih hrl hrow m45 g0 g1 g2 hs
      generalize r.costs.getD i default = row
      generalize r.owners.getD i default = o
      generalize row.getD i default = dg
      generalize row.any badC = bb
      unfold m50_coalition_Check_1
      by_cases k1 : o < 0
      · simp [k1]
      by_cases k2 : 7 < o
      · simp [k1, k2]
      by_cases k3 : (row.length : Int) = r.slots
      · rw [ck_eq (by omega)]
        by_cases k4 : dg < 0
        · simp [k1, k2, k3, k4]
        · cases bb <;> simp [k1, k2, k3, k4]
      · simp [k1, k2, k3]
  simp only [jn_eq]
  unfold valB
  cases hsh : shapeB r
  · unfold shapeB at hsh
    by_cases k1 : r.slots < 1
    · simp [k1]
    by_cases k2 : 8 < r.slots
    · simp [k1, k2]
    by_cases k3 : r.slots < (r.owners.length : Int)
    · simp [k1, k2, k3]
    by_cases k4 : (r.costs.length : Int) = (r.owners.length : Int)
    · simp [k1, k2, k3, k4] at hsh
    · simp [k1, k2, k3, k4]
  · have hm := main hsh
    obtain ⟨s1, s2, s3, s4⟩ := shape_props hsh
    have k1 : ¬ r.slots < 1 := by omega
    have k2 : ¬ 8 < r.slots := by omega
    have k3 : ¬ r.slots < (r.owners.length : Int) := by omega
    have k4 : (r.costs.length : Int) = (r.owners.length : Int) := by omega
    simp only [k1, k2, k3, k4, decide_false, cond_false, ne_eq, not_true_eq_false, Bool.true_and]
    rw [k4] at hm; exact hm
structure Val (r : XRound) : Prop where
  s1 : 1 ≤ r.slots
  s2 : r.slots ≤ 8
  s3 : (r.owners.length : Int) ≤ r.slots
  s4 : r.costs.length = r.owners.length
  own : ∀ i < r.owners.length, 0 ≤ r.owners.getD i default ∧ r.owners.getD i default < 8
  row : ∀ i < r.owners.length, ((r.costs.getD i default).length : Int) = r.slots
  diag : ∀ i < r.owners.length, 0 ≤ (r.costs.getD i default).getD i default
  cost : ∀ i < r.owners.length, ∀ c ∈ r.costs.getD i default, -1 ≤ c ∧ c ≤ 1048576
theorem Val.of {r : XRound} (h : valB r = true) : Val r := by
  unfold valB at h
  simp only [Bool.and_eq_true, List.all_eq_true, List.mem_range] at h
  obtain ⟨s1, s2, s3, s4⟩ := shape_props h.1
  have hb : ∀ i < r.owners.length, _ := fun i hi => h.2 i hi
  refine ⟨s1, s2, s3, s4, fun i hi => ?_, fun i hi => ?_, fun i hi => ?_, fun i hi c hc => ?_⟩ <;> (have := hb i hi; unfold rowBad at this; simp only [Bool.not_eq_true', Bool.or_eq_false_iff, Bool.not_eq_false', decide_eq_false_iff_not, decide_eq_true_eq, List.any_eq_false] at this; obtain ⟨⟨p1, p2⟩, p3, p4, p5⟩ := this)
  · omega
  · exact p3
  · omega
  · have := p5 c hc; simp [badC] at this; omega
end Go.Fx



/- Chapter 37: validity, few, assignments, costs. -/
set_option linter.unusedSimpArgs false
set_option linter.unusedVariables false
namespace Go.Fx
open Go Go.RowKit
theorem any_range' {p : Nat → Bool} (i n : Nat) : (List.range' i (n + 1)).any p = (p i || (List.range' (i + 1) n).any p) := by rw [List.range'_succ]; rfl
theorem getD_getElem {α} [Inhabited α] {l : List α} {i : Nat} (h : i < l.length) : l.getD i default = l[i] := by simp [h]
theorem getD_mem {α} [Inhabited α] {l : List α} {i : Nat} (h : i < l.length) : l.getD i default ∈ l := by rw [getD_getElem h]; exact List.getElem_mem _
def badK (row : List Int) (i k : Nat) : Bool := decide (row.getD k default < -1) || (decide (1048576 < row.getD k default) || (decide (k = i) && decide (row.getD k default < 0)))
theorem badK_any {row : List Int} {i : Nat} (h : i < row.length) : (List.range' 0 row.length).any (badK row i) = (decide (row.getD i default < 0) || row.any badC) := by
  rw [Bool.eq_iff_iff]
  simp only [List.any_eq_true, Bool.or_eq_true, decide_eq_true_eq, List.mem_range'_1, Nat.zero_le, true_and, Nat.zero_add]
  constructor
  · rintro ⟨k, hk, hb⟩
    unfold badK at hb
    simp only [Bool.or_eq_true, Bool.and_eq_true, decide_eq_true_eq] at hb
    rcases hb with hb | hb | ⟨rfl, hb⟩
    · exact .inr ⟨_, getD_mem hk, by unfold badC; simp only [← getD_getElem hk, hb, decide_true, Bool.true_or, Bool.or_true]⟩
    · exact .inr ⟨_, getD_mem hk, by unfold badC; simp only [← getD_getElem hk, hb, decide_true, Bool.true_or, Bool.or_true]⟩
    · exact .inl hb
  · rintro (hb | ⟨c, hc, hb⟩)
    · exact ⟨i, h, by simp only [badK, hb, decide_true, Bool.and_true, Bool.or_true]⟩
    · obtain ⟨k, hk, rfl⟩ := List.getElem_of_mem hc
      refine ⟨k, hk, ?_⟩
      unfold badC at hb; simp only [Bool.or_eq_true, decide_eq_true_eq] at hb
      unfold badK; rw [getD_getElem hk]
      rcases hb with hb | hb <;> simp [hb]
theorem m54_eq (r : XRound) (hs : smXRound r) : m54_overflightref37_Valid r = some (valB r) := by
  have hcl : r.owners.length < 9223372036854775807 := by have := hs.2.1.1; omega
  unfold m54_overflightref37_Valid
  have main : shapeB r = true → loop1 (m54_overflightref37_Valid_B0 r) (((r.owners.length : Int) - 0).toNat + 1) 0 = some ((List.range r.owners.length).all (fun i => !rowBad r i)) := by
    intro hsh
    obtain ⟨s1, s2, s3, s4⟩ := shape_props hsh
    rw [all_range]
    refine up_listI (fun i t => some ((List.range' i t.length).all (fun i => !rowBad r i))) r.owners hcl ?_ ?_ (show r.owners.length < ((r.owners.length : Int) - 0).toNat + 1 by omega)
    · intro sf; unfold m54_overflightref37_Valid_B0; simp
    · intro sf i x t h1 h2 h3 ih
      have hrow : r.costs.getD i default ∈ r.costs := getD_mem (by omega)
      have hrl := (hs.2.2.2 _ hrow)
      rw [List.length_cons, all_range']
      unfold m54_overflightref37_Valid_B0
      have c1 : (i : Int) < (r.owners.length : Int) := by omega
      have g0 : r.costs.getD (i : Int).toNat default = r.costs.getD i default := rfl
      have g1 : r.owners.getD (i : Int).toNat default = r.owners.getD i default := rfl
      simp only [decide_eq_true c1, cond_true, jn_eq, g0, g1]
      have inner : ∀ row : List Int, row = r.costs.getD i default → (row.length : Int) = r.slots → loop1 (m54_overflightref37_Valid_B1 r (i : Int) sf) ((r.slots - 0).toNat + 1) 0 = bif (decide (row.getD i default < 0) || row.any badC) then some false else sf (IntKind.wrap .i64 ((i : Int) + 1)) := by
        intro row hr hl
        rw [← badK_any (row := row) (i := i) (by omega)]
        refine up_listI (fun k t => bif (List.range' k t.length).any (badK row i) then some false else sf (IntKind.wrap .i64 ((i : Int) + 1))) row (by omega) ?_ ?_ (by omega)
        · intro sg; unfold m54_overflightref37_Valid_B1; simp [hl]
        · intro sg k y u h1 h2 h3 ih
          have g0 : r.costs.getD (i : Int).toNat default = row := by rw [hr]; rfl
          have g2 : row.getD (k : Int).toNat default = row.getD k default := rfl
          have c1 : (k : Int) < r.slots := by omega
          have e1 : ((k : Int) = (i : Int)) = (k = i) := by apply propext; omega
          rw [List.length_cons, any_range']
          unfold m54_overflightref37_Valid_B1
          simp only [c1, decide_true, cond_true, jn_eq, g0, g2, h3, ih, e1]
          rw [ck_eq (by omega), ck_eq (by omega)]
          have hb : badK row i k = (decide (row.getD k default < -1) || (decide (1048576 < row.getD k default) || (decide (k = i) && decide (row.getD k default < 0)))) := rfl
          rw [hb]
          have a1 : (0 : Int) ≤ i ∧ (i : Int) < r.costs.length := by omega
          have a2 : (0 : Int) ≤ k ∧ (k : Int) < row.length := by omega
          generalize (List.range' (k + 1) u.length).any (badK row i) = rest
          generalize row.getD k default = c
          simp only [ck_eq a1, ck_eq a2]
          by_cases q1 : c < -1
          · simp [q1]
          by_cases q2 : 1048576 < c
          · simp [q1, q2]
          by_cases q3 : k = i
          · by_cases q4 : c < 0
            · simp only [q1, q2, q3, q4]; rfl
            · simp only [q1, q2, q3, q4]; rfl
          · simp [q1, q2, q3]
      have hb : rowBad r i = ((decide (r.owners.getD i default < 0) || decide (7 < r.owners.getD i default)) || (!decide (((r.costs.getD i default).length : Int) = r.slots) || (decide ((r.costs.getD i default).getD i default < 0) || (r.costs.getD i default).any badC))) := rfl
      rw [hb]
      replace inner := inner _ rfl
      rw [h3] at inner
      generalize (List.range' (i + 1) t.length).all (fun i => !rowBad r i) = rest at *
      clear hb hrl hrow g0 g1 hs
      generalize r.costs.getD i default = row at *
      generalize r.owners.getD i default = o at *
      generalize row.getD i default = dg at *
      generalize row.any badC = bb at *
      have a1 : (0 : Int) ≤ i ∧ (i : Int) < r.owners.length := by omega
      have a2 : (0 : Int) ≤ i ∧ (i : Int) < r.costs.length := by omega
      simp only [ck_eq a1, ck_eq a2]
      by_cases k1 : o < 0
      · simp [k1]
      by_cases k2 : 7 < o
      · have : 8 ≤ o := by omega
        simp [k1, k2, this, ck_eq a1]
      have k2' : ¬ 8 ≤ o := by omega
      by_cases k3 : (row.length : Int) = r.slots
      · simp only [k1, k2, k2', k3, ck_eq a1, ck_eq a2, inner k3, ih, ne_eq, not_true_eq_false, decide_false, cond_false]
        generalize decide (dg < 0) = d1
        cases d1 <;> cases bb <;> rfl
      · simp [k1, k2, k2', k3, ck_eq a1, ck_eq a2]
  simp only [jn_eq]
  unfold valB
  cases hsh : shapeB r
  · unfold shapeB at hsh
    by_cases k1 : r.slots < 1
    · simp [k1]
    by_cases k2 : 8 < r.slots
    · simp [k1, k2]
    by_cases k3 : r.slots < (r.owners.length : Int)
    · simp [k1, k2, k3]
    by_cases k4 : (r.costs.length : Int) = (r.owners.length : Int)
    · simp [k1, k2, k3, k4] at hsh
    · simp [k1, k2, k3, k4]
  · have hm := main hsh
    obtain ⟨s1, s2, s3, s4⟩ := shape_props hsh
    have k1 : ¬ r.slots < 1 := by omega
    have k2 : ¬ 8 < r.slots := by omega
    have k3 : ¬ r.slots < (r.owners.length : Int) := by omega
    have k4 : (r.costs.length : Int) = (r.owners.length : Int) := by omega
    simp only [k1, k2, k3, k4, decide_false, cond_false, ne_eq, not_true_eq_false, Bool.true_and]
    exact hm
def fewB (r : XRound) : Bool := !(decide (12 < (r.owners.length : Int)) || decide (12 < (r.costs.length : Int))) && (r.costs.all (fun c => !decide (20 < (c.length : Int))) && (!valB r || decide ((r.owners.length : Int) ≤ 5)))
theorem m29_eq (r : XRound) (hs : smXRound r) : m29_overflightref37_Few r = some (fewB r) := by
  have hcl : r.costs.length < 9223372036854775807 := by have := hs.2.2.1; omega
  unfold m29_overflightref37_Few
  have main : loop1 (m29_overflightref37_Few_B0 r) (((r.costs.length : Int) - 0).toNat + 1) 0 = some (r.costs.all (fun c => !decide (20 < (c.length : Int))) && (!valB r || decide ((r.owners.length : Int) ≤ 5))) := by
    refine up_list0 (fun t => some (t.all (fun c => !decide (20 < (c.length : Int))) && (!valB r || decide ((r.owners.length : Int) ≤ 5)))) r.costs hcl ?_ ?_ (show r.costs.length < ((r.costs.length : Int) - 0).toNat + 1 by omega)
    · intro sf; unfold m29_overflightref37_Few_B0; simp only [m54_eq r hs]; cases valB r <;> simp
    · intro sf i x t h1 h2 h3 ih
      unfold m29_overflightref37_Few_B0
      have g0 : r.costs.getD (i : Int).toNat default = x := getD_of h2
      have c1 : (i : Int) < (r.costs.length : Int) := by omega
      simp only [c1, decide_true, cond_true, g0, h3, ih, List.all_cons]
      rw [ck_eq (by simp)]
      cases decide (20 < (x.length : Int)) <;> simp
  simp only [jn_eq, main]
  unfold fewB
  cases decide (12 < (r.owners.length : Int)) <;> cases decide (12 < (r.costs.length : Int)) <;> simp
/-- what flight f costs at slot s -/
def cst (r : XRound) (f s : Int) : Int := (r.costs.getD f.toNat default).getD s.toNat default
def ownr (r : XRound) (f : Int) : Int := r.owners.getD f.toNat default
/-- slot i of s is as it should be -/
def okS (r : XRound) (s : List Int) (i : Nat) : Bool := !(decide (s.getD i default < 0) || (decide (r.slots ≤ s.getD i default) || (decide (cst r i (s.getD i default) < 0) || (s.take i).any (fun x => decide (s.getD i default = x)))))
def asgB (r : XRound) (s : List Int) : Bool := decide (s.length = r.owners.length) && (List.range s.length).all (okS r s)
theorem m53_eq (r : XRound) (s : List Int) (hv : Val r) (hl : s.length < 9223372036854775807) : m53_coalition_allowed r s = some (asgB r s) := by
  unfold m53_coalition_allowed asgB
  by_cases hc : s.length = r.owners.length
  · have : ¬ (s.length : Int) ≠ r.owners.length := by omega
    simp only [this, decide_eq_true hc, decide_false, cond_false, Bool.true_and]
    rw [all_range]
    refine up_listI (fun i t => some ((List.range' i t.length).all (okS r s))) s hl ?_ ?_ (show s.length < ((s.length : Int) - 0).toNat + 1 by omega)
    · intro sf; unfold m53_coalition_allowed_B0; simp
    · intro sf i x t h1 h2 h3 ih
      rw [List.length_cons, all_range']
      unfold m53_coalition_allowed_B0
      have g0 : s.getD (i : Int).toNat default = s.getD i default := rfl
      have c1 : (i : Int) < (s.length : Int) := by omega
      have c2 : (0 : Int) ≤ i ∧ (i : Int) < s.length := by omega
      have c3 : (0 : Int) ≤ i ∧ (i : Int) ≤ s.length := by omega
      have c4 : (0 : Int) ≤ i ∧ (i : Int) < r.costs.length := by have := hv.s4; omega
      have e1 : (s.drop 0).take ((i : Int).toNat - 0) = s.take i := by simp
      have hm := m48_eq (s.take i) (s.getD i default) (by rw [List.length_take]; omega)
      have e2 : (r.costs.getD (i : Int).toNat default).getD (s.getD i default).toNat default = cst r i (s.getD i default) := rfl
      have hr := hv.row i (by omega)
      have hr' : ((r.costs.getD (i : Int).toNat default).length : Int) = r.slots := hr
      have hb : okS r s i = !(decide (s.getD i default < 0) || (decide (r.slots ≤ s.getD i default) || (decide (cst r i (s.getD i default) < 0) || (s.take i).any (fun x => decide (s.getD i default = x))))) := rfl
      simp only [c1, decide_true, cond_true, jn_eq, ck_eq c2, g0, h3, ih, e1, hm, ck_eq c3, ck_eq c4, e2, hr', hb, Option.bind_some]
      generalize cst r i (s.getD i default) = c
      generalize (s.take i).any (fun x => decide (s.getD i default = x)) = b
      generalize s.getD i default = v
      by_cases k1 : v < 0
      · simp [k1]
      by_cases k2 : r.slots ≤ v
      · simp [k1, k2]
      have c5 : (0 : Int) ≤ v ∧ v < r.slots := by omega
      simp only [ck_eq c5]
      by_cases k3 : c < 0
      · simp [k1, k2, k3]
      · cases b <;> simp [k1, k2, k3]
  · have : (s.length : Int) ≠ r.owners.length := by omega
    simp [this, hc]
theorem m26_eq (r : XRound) (s : List Int) (hs : smXRound r) (hl : s.length < 9223372036854775807) : m26_coalition_Allowed r s = some (bif valB r then (asgB r s, 0) else (false, 370)) := by
  unfold m26_coalition_Allowed
  rw [m25_eq r hs]
  cases hv : valB r
  · rfl
  · simp [m53_eq r s (Val.of hv) hl]
def goodB (r : XRound) (s : List Int) : Bool := valB r && asgB r s
theorem m45_eq (r : XRound) (s : List Int) (hs : smXRound r) (hl : s.length < 9223372036854775807) : m45_coalition_check r s = some (bif goodB r s then 0 else 370) := by
  unfold m45_coalition_check
  rw [m26_eq r s hs hl]
  unfold goodB
  cases hv : valB r
  · rfl
  · cases ha : asgB r s <;> rfl
def ownL (r : XRound) : List Int := (List.range r.owners.length).map fun i : Nat => (i : Int)
theorem m47_eq (r : XRound) (hv : Val r) : m47_coalition_own r = some (ownL r) := by
  unfold m47_coalition_own ownL
  have hn : r.owners.length ≤ 8 := by have := hv.s3; have := hv.s2; omega
  rw [List.range_eq_range']
  refine up_listB (fun i s => s.length = i) (fun i t s => some (s ++ (List.range' i t.length).map fun i : Nat => (i : Int))) r.owners (by omega) ?_ ?_ (by omega) (by rfl)
  · intro sf s hI; unfold m47_coalition_own_B0; simp
  · intro sf i s x t h1 h2 h3 hI ih
    unfold m47_coalition_own_B0
    have c1 : (i : Int) < (r.owners.length : Int) := by omega
    simp only [c1, decide_true, cond_true, h3]
    rw [ck_eq (by simp [hI]; omega), ih _ (by simp [hI])]
    simp [List.range'_succ]
end Go.Fx



/- Chapter 37: costs, worse. -/
set_option linter.unusedSimpArgs false
set_option linter.unusedVariables false
namespace Go.Fx
open Go Go.RowKit
theorem map_range_set {f g : Nat → Int} {k n : Nat} {v : Int} (hk : k < n) (hv : g k = v) (h : ∀ j, j ≠ k → g j = f j) : ((List.range n).map f).set k v = (List.range n).map g := by
  apply List.ext_getElem
  · simp
  · intro i h1 h2
    simp at h1
    by_cases e : k = i
    · subst e; simp [hv]
    · rw [List.getElem_set_ne e]; simp [h i (Ne.symm e)]
theorem getD_map_range {f : Nat → Int} {k n : Nat} (hk : k < n) : ((List.range n).map f).getD k default = f k := by simp [hk]
theorem csum_bound {own : Int → Int} {cost : Int → Int → Int} {o b : Int} {l : List (Int × Int)} (hb : 0 ≤ b) (h : ∀ p ∈ l, -b ≤ cost p.1 p.2 ∧ cost p.1 p.2 ≤ b) : -(b * l.length) ≤ csum own cost o l ∧ csum own cost o l ≤ b * l.length := by
  induction l with
  | nil => simp [csum]
  | cons p t ih =>
    obtain ⟨f, s⟩ := p
    have := ih fun p hp => h p (List.mem_cons_of_mem _ hp)
    have h1 := h (f, s) (List.mem_cons_self ..)
    simp only at h1
    simp only [csum, List.length_cons]
    have e : b * ((t.length + 1 : Nat) : Int) = b * t.length + b := by rw [Int.natCast_add, Int.mul_add]; simp
    rw [e]
    split <;> omega
/-- the costs of all airlines -/
def cvec (r : XRound) (fl s : List Int) : List Int := (List.range 8).map fun o : Nat => csum (ownr r) (cst r) (o : Int) (fl.zip s)
/-- flight f may have slot s -/
def fits (r : XRound) (f s : Int) : Prop := 0 ≤ f ∧ f < r.owners.length ∧ 0 ≤ s ∧ s < r.slots
theorem fits.cst {r : XRound} {f s : Int} (hv : Val r) (h : fits r f s) : -1 ≤ cst r f s ∧ cst r f s ≤ 1048576 := by
  obtain ⟨a, b, c, d⟩ := h
  have hr := hv.row f.toNat (by omega)
  exact hv.cost f.toNat (by omega) _ (getD_mem (by omega))
theorem zip_take_succ {l m : List Int} {i : Nat} (h1 : i < l.length) (h2 : i < m.length) : (l.zip m).take (i + 1) = (l.zip m).take i ++ [(l.getD i default, m.getD i default)] := by
  rw [List.take_succ_eq_append_getElem (by simp; omega)]
  simp [h1, h2]
theorem m46_eq (r : XRound) (fl s : List Int) (hv : Val r) (hl : fl.length ≤ 20) (hls : fl.length ≤ s.length) (hf : ∀ i < fl.length, fits r (fl.getD i default) (s.getD i default)) : m46_coalition_costs r fl s = some (cvec r fl s) := by
  unfold m46_coalition_costs
  rw [ck_eq (by decide)]
  have hz : (fl.zip s).take fl.length = fl.zip s := by rw [List.take_of_length_le (by simp; omega)]
  refine up_listB (fun i c => c = (List.range 8).map fun o : Nat => csum (ownr r) (cst r) (o : Int) ((fl.zip s).take i)) (fun i t c => some (cvec r fl s)) fl (by omega) ?_ ?_ (by omega) (by rfl)
  · intro sf c hI; unfold m46_coalition_costs_B0; rw [hz] at hI; simp [hI, cvec]
  · intro sf i c x t h1 h2 h3 hI ih
    unfold m46_coalition_costs_B0
    obtain ⟨a1, a2, a3, a4⟩ := hf i h1
    have g0 : fl.getD (i : Int).toNat default = fl.getD i default := rfl
    have g1 : s.getD (i : Int).toNat default = s.getD i default := rfl
    have hc := fits.cst hv (hf i h1)
    have hbound : ∀ o, -(1048576 * 20) ≤ csum (ownr r) (cst r) o ((fl.zip s).take i) ∧ csum (ownr r) (cst r) o ((fl.zip s).take i) ≤ 1048576 * 20 := by
      intro o
      have := csum_bound (own := ownr r) (cost := cst r) (o := o) (b := 1048576) (l := (fl.zip s).take i) (by omega) (fun p hp => by
        obtain ⟨j, hj, rfl⟩ := List.getElem_of_mem (List.mem_of_mem_take hp)
        simp at hj
        have := fits.cst hv (hf j (by omega))
        rw [getD_getElem (by omega), getD_getElem (by omega)] at this
        simp only [List.getElem_zip]; omega)
      have hle : ((fl.zip s).take i).length ≤ 20 := by simp; omega
      have : (1048576 : Int) * ((fl.zip s).take i).length ≤ 1048576 * 20 := by omega
      omega
    have e1 : (r.costs.getD (fl.getD i default).toNat default).getD (s.getD i default).toNat default = cst r (fl.getD i default) (s.getD i default) := rfl
    have e2 : r.owners.getD (fl.getD i default).toNat default = ownr r (fl.getD i default) := rfl
    have hro := hv.row (fl.getD i default).toNat (by omega)
    have ho := hv.own (fl.getD i default).toNat (by omega)
    rw [e2] at ho
    have hs4 := hv.s4
    simp only [show (i : Int) < (fl.length : Int) by omega, decide_true, cond_true, g0, g1, e1, e2]
    have hlen : c.length = 8 := by rw [hI]; simp
    have c1 : (0 : Int) ≤ i ∧ (i : Int) < fl.length := by omega
    have c2 : (0 : Int) ≤ fl.getD i default ∧ fl.getD i default < r.owners.length := ⟨a1, a2⟩
    have c3 : (0 : Int) ≤ ownr r (fl.getD i default) ∧ ownr r (fl.getD i default) < c.length := by omega
    have c4 : (0 : Int) ≤ fl.getD i default ∧ fl.getD i default < r.costs.length := by omega
    have c5 : (0 : Int) ≤ i ∧ (i : Int) < s.length := by omega
    have c6 : (0 : Int) ≤ s.getD i default ∧ s.getD i default < ((r.costs.getD (fl.getD i default).toNat default).length : Int) := by omega
    have cs := zip_take_succ h1 (show i < s.length by omega)
    simp only [true_and, ck_True, ck_eq c1, ck_eq c2, ck_eq c3, ck_eq c4, ck_eq c5, ck_eq c6, h3]
    refine ih _ ?_
    generalize fl.getD i default = f at *
    generalize s.getD i default = v at *
    have hk : ((ownr r f).toNat : Int) = ownr r f := by omega
    have hg : c.getD (ownr r f).toNat default = csum (ownr r) (cst r) (ownr r f) ((fl.zip s).take i) := by rw [hI, getD_map_range (by omega), hk]
    rw [hg, wrap_i64 (by have := hbound (ownr r f); omega) (by have := hbound (ownr r f); omega), hI]
    refine map_range_set (by omega) ?_ ?_
    · rw [cs, csum_append, hk]; simp [csum]
    · intro j hj; rw [cs, csum_append]; simp [csum]; omega
theorem asg_props {r : XRound} {s : List Int} (h : asgB r s = true) : s.length = r.owners.length ∧ ∀ i < s.length, 0 ≤ s.getD i default ∧ s.getD i default < r.slots ∧ 0 ≤ cst r i (s.getD i default) ∧ ∀ j < i, s.getD j default ≠ s.getD i default := by
  unfold asgB at h
  simp only [Bool.and_eq_true, decide_eq_true_eq, List.all_eq_true, List.mem_range] at h
  refine ⟨h.1, fun i hi => ?_⟩
  have := h.2 i hi
  unfold okS at this
  simp only [Bool.not_eq_true', Bool.or_eq_false_iff, decide_eq_false_iff_not, List.any_eq_false, decide_eq_true_eq] at this
  obtain ⟨b1, b2, b3, b4⟩ := this
  refine ⟨by omega, by omega, by omega, fun j hj e => b4 (s.getD j default) ?_ e.symm⟩
  have : (s.take i).getD j default ∈ s.take i := getD_mem (by rw [List.length_take]; omega)
  rwa [show (s.take i).getD j default = s.getD j default from by simp [hj]] at this
theorem ownL_len (r : XRound) : (ownL r).length = r.owners.length := by simp [ownL]
theorem ownL_getD {r : XRound} {i : Nat} (h : i < r.owners.length) : (ownL r).getD i default = i := by simp [ownL, h]
theorem fits_asg {r : XRound} {s : List Int} (hv : Val r) (h : asgB r s = true) : ∀ i < (ownL r).length, fits r ((ownL r).getD i default) (s.getD i default) := by
  intro i hi
  rw [ownL_len] at hi
  obtain ⟨e, h2⟩ := asg_props h
  obtain ⟨b1, b2, _, _⟩ := h2 i (by omega)
  rw [ownL_getD hi]
  exact ⟨by omega, by omega, b1, b2⟩
theorem fits_own {r : XRound} (hv : Val r) : ∀ i < (ownL r).length, fits r ((ownL r).getD i default) ((ownL r).getD i default) := by
  intro i hi
  rw [ownL_len] at hi
  rw [ownL_getD hi]
  have := hv.s3
  exact ⟨by omega, by omega, by omega, by omega⟩
theorem Val.n8 {r : XRound} (hv : Val r) : r.owners.length ≤ 8 := by have := hv.s3; have := hv.s2; omega
theorem cvec_asg {r : XRound} {s : List Int} (hv : Val r) (h : asgB r s = true) : m46_coalition_costs r (ownL r) s = some (cvec r (ownL r) s) :=
  m46_eq r _ s hv (by have := hv.n8; rw [ownL_len]; omega) (by rw [ownL_len, (asg_props h).1]; exact Nat.le_refl _) (fits_asg hv h)
theorem cvec_own {r : XRound} (hv : Val r) : m46_coalition_costs r (ownL r) (ownL r) = some (cvec r (ownL r) (ownL r)) :=
  m46_eq r _ _ hv (by have := hv.n8; rw [ownL_len]; omega) (Nat.le_refl _) (fits_own hv)
theorem good_props {r : XRound} {s : List Int} (h : goodB r s = true) : Val r ∧ asgB r s = true := by
  unfold goodB at h; simp only [Bool.and_eq_true] at h; exact ⟨Val.of h.1, h.2⟩
theorem m22_eq (r : XRound) (s : List Int) (hs : smXRound r) (hl : s.length < 9223372036854775807) : m22_coalition_Costs r s = some (bif goodB r s then (cvec r (ownL r) s, 0) else ([], 370)) := by
  unfold m22_coalition_Costs
  rw [m45_eq r s hs hl]
  cases hg : goodB r s
  · rfl
  · obtain ⟨hv, ha⟩ := good_props hg
    simp [m47_eq r hv, cvec_asg hv ha]
/-- the airlines that are worse off -/
def worseL (r : XRound) (s : List Int) : List Int := ((List.range 8).filter fun i => decide ((cvec r (ownL r) (ownL r)).getD i default < (cvec r (ownL r) s).getD i default)).map fun i : Nat => (i : Int)
theorem filter_range' {p : Nat → Bool} (i n : Nat) : (List.range' i (n + 1)).filter p = (if p i then [i] else []) ++ (List.range' (i + 1) n).filter p := by
  rw [List.range'_succ, List.filter_cons]; split <;> simp
theorem m27_eq (r : XRound) (s : List Int) (hs : smXRound r) (hl : s.length < 9223372036854775807) : m27_coalition_Worse r s = some (bif goodB r s then (worseL r s, 0) else ([], 370)) := by
  unfold m27_coalition_Worse
  rw [m45_eq r s hs hl]
  cases hg : goodB r s
  · rfl
  · obtain ⟨hv, ha⟩ := good_props hg
    simp only [cond_true, ne_eq, not_true_eq_false, decide_false, Option.bind_some, m47_eq r hv, cvec_asg hv ha, cvec_own hv, cond_false]
    unfold worseL
    rw [List.range_eq_range']
    have e1 : (cvec r (ownL r) (ownL r)).length = 8 := by simp [cvec]
    have e2 : (cvec r (ownL r) s).length = 8 := by simp [cvec]
    generalize cvec r (ownL r) (ownL r) = b at *
    generalize cvec r (ownL r) s = a at *
    rw [← e2]
    refine up_listB (fun i l => l.length ≤ i) (fun i t l => some (l ++ ((List.range' i t.length).filter fun i => decide (b.getD i default < a.getD i default)).map (fun i : Nat => (i : Int)), 0)) a (by omega) ?_ ?_ (by omega) (by exact Nat.le_refl _)
    · intro sf l hI; unfold m27_coalition_Worse_B0; simp
    · intro sf i l x t h1 h2 h3 hI ih
      unfold m27_coalition_Worse_B0
      have g0 : a.getD (i : Int).toNat default = a.getD i default := rfl
      have g1 : b.getD (i : Int).toNat default = b.getD i default := rfl
      have c1 : (0 : Int) ≤ i ∧ (i : Int) < a.length := by omega
      have c2 : (0 : Int) ≤ i ∧ (i : Int) < b.length := by omega
      have c3 : (l.length + [(i : Int)].length) * 8 ≤ 140737488355328 := by simp; omega
      simp only [decide_eq_true c1.2, cond_true, g0, g1, h3, ck_eq c1, ck_eq c2, ck_eq c3]
      rw [show (x :: t).length = t.length + 1 from rfl, filter_range']
      by_cases q : b.getD i default < a.getD i default
      · rw [decide_eq_true q, cond_true, ih _ (by simp; omega)]; simp
      · rw [decide_eq_false q, cond_false, ih _ (by omega)]; simp
end Go.Fx



set_option linter.unusedVariables false
set_option linter.unusedSimpArgs false
set_option maxRecDepth 100000
set_option maxHeartbeats 0
namespace Go.Fx
open Go Go.RowKit Go.Proofs
end Go.Fx


