/- Part 4 of the proof: the cycles of an assignment move each flight that leaves its own slot once, and no other. -/
import Derived.Test.YtnenhpedfcngbaaMoves3
set_option linter.unusedVariables false
set_option linter.unusedSimpArgs false
set_option maxRecDepth 100000
set_option maxHeartbeats 0
namespace Go.Fx
open Go Go.RowKit Go.Proofs
def m10_overflightlaw38_sane : Option Bool :=
 (m18_clearing_Best (⟨3, [0, 1], [[9, 2, (-1)], [4, 8, 30]]⟩ : XRound)).bind fun best_1 =>
 (m12_clearing_Value (⟨3, [0, 1], [[9, 2, (-1)], [4, 8, 30]]⟩ : XRound) best_1.1).bind fun value_1 =>
 (m14_clearing_Cycles (⟨3, [0, 1], [[9, 2, (-1)], [4, 8, 30]]⟩ : XRound) best_1.1).bind fun cycles_1 =>
 (m14_clearing_Cycles (⟨3, [0, 1], [[9, 2, (-1)], [4, 8, 30]]⟩ : XRound) [1, 2]).bind fun cycles_2 =>
 (m14_clearing_Cycles (⟨3, [0, 1], [[9, 2, (-1)], [4, 8, 30]]⟩ : XRound) [0, 1]).bind fun cycles_3 =>
 (m18_clearing_Best (⟨1, ([] : List Int), ([] : List (List Int))⟩ : XRound)).bind fun best_2 =>
 (m18_clearing_Best (⟨0, ([] : List Int), ([] : List (List Int))⟩ : XRound)).bind fun best_3 =>
 (m18_clearing_Best (⟨2, [0, 1], [[1, 2], [2, 1]]⟩ : XRound)).bind fun best_4 =>
 jn (fun (v_1 : Bool) =>
  some v_1)
 (fun k219 =>
  bif (decide (best_1.2 = 0)) then
   (m16_overflightref37_SameInts best_1.1 [1, 0]).bind fun sameints_1 =>
   bif sameints_1 then
    bif (decide (value_1.2 = 0)) then
     (m16_overflightref37_SameInts value_1.1 [6, 2]).bind fun sameints_2 =>
     bif sameints_2 then
      bif (decide (cycles_1.2 = 0)) then
       (m17_overflightref38_SameLists cycles_1.1 [[0, 1]]).bind fun samelists_1 =>
       bif samelists_1 then
        bif (decide (cycles_2.2 = 0)) then
         (m17_overflightref38_SameLists cycles_2.1 [[1, 0]]).bind fun samelists_2 =>
         bif samelists_2 then
          bif (decide (cycles_3.2 = 0)) then
           bif (decide ((cycles_3.1.length : Int) = 0)) then
            bif (decide (best_2.2 = 0)) then
             bif (decide ((best_2.1.length : Int) = 0)) then
              bif (decide (best_3.2 = 370)) then
               bif (decide (best_4.2 = 0)) then
                (m16_overflightref37_SameInts best_4.1 [0, 1]).bind fun sameints_3 =>
                bif sameints_3 then
                 (m20_clearing_Verify (⟨3, [0, 1], [[9, 2, (-1)], [4, 8, 30]]⟩ : XRound) best_1.1).bind fun verify_1 =>
                 bif (decide (verify_1 = 0)) then
                  (m20_clearing_Verify (⟨3, [0, 1], [[9, 2, (-1)], [4, 8, 30]]⟩ : XRound) [0, 1]).bind fun verify_2 =>
                  bif (decide (verify_2 = 380)) then
                   (m20_clearing_Verify (⟨3, [0, 1], [[9, 2, (-1)], [4, 8, 30]]⟩ : XRound) [1, 2]).bind fun verify_3 =>
                   k219 (decide (verify_3 = 380))
                  else
                   k219 false
                 else
                  k219 false
                else
                 k219 false
               else
                k219 false
              else
               k219 false
             else
              k219 false
            else
             k219 false
           else
            k219 false
          else
           k219 false
         else
          k219 false
        else
         k219 false
       else
        k219 false
      else
       k219 false
     else
      k219 false
    else
     k219 false
   else
    k219 false
  else
   k219 false)

theorem c10_overflightlaw38_sane {w : World} {O : List Nat} (hO : ∀ k ∈ O, k < w.heap.size) {x : Bool} (hm : m10_overflightlaw38_sane = some x) :
 Ok Try.prog 10 [] w O vB x := by
 unfold m10_overflightlaw38_sane at hm
 refine Fn_of_Wp (n := 158) (xs := [.tmp 0]) Try.func10 rfl Try.ntmps10 Try.results10 rfl ?_
 have hs := St.start hO
 refine Wp_seq (Wp_region ?_)
 refine Rg_op rfl (op_assign (v := (Value.bool false)) rfl ?_)
 refine Rg_nil (Wp_seq (Wp_region ?_))
 refine Rg_op rfl (op_buildSlice (cs := [(Value.int .i64 0), (Value.int .i64 1)]) (parts := [(0, .const (.int .i64 0)), (1, .const (.int .i64 1))]) ty22 ty3 hs (by decide) rfl ?_)
 intro b1 w2 hx5 p3 hs4
 clear p3
 refine Rg_op rfl (op_buildSlice (cs := [(Value.int .i64 9), (Value.int .i64 2), (Value.int .i64 (-1))]) (parts := [(0, .const (.int .i64 9)), (1, .const (.int .i64 2)), (2, .const (.int .i64 (-1)))]) ty22 ty3 hs4 (by decide) rfl ?_)
 intro b7 w8 hx11 p9 hs10
 clear p9 hs4
 refine Rg_op rfl (op_buildSlice (cs := [(Value.int .i64 4), (Value.int .i64 8), (Value.int .i64 30)]) (parts := [(0, .const (.int .i64 4)), (1, .const (.int .i64 8)), (2, .const (.int .i64 30))]) ty22 ty3 hs10 (by decide) rfl ?_)
 intro b13 w14 hx17 p15 hs16
 clear p15 hs10
 obtain ⟨hs20, p21, f19⟩ := St.publish (i := 1) (o := 0) (c := 3) (xs := [9, 2, (-1)]) hs16 rfl (show Els (rInt .i64) _ _ [(Value.int .i64 9), (Value.int .i64 2), (Value.int .i64 (-1))] [9, 2, (-1)] from ⟨_, _, rfl, (mk_int (show InK .i64 9 from by decide)), ⟨_, _, rfl, (mk_int (show InK .i64 2 from by decide)), ⟨_, _, rfl, (mk_int (show InK .i64 (-1) from by decide)), Els.nil⟩⟩⟩) (le_lit rfl) (le_lit rfl) (le_lit rfl)
 clear p21 hs16
 obtain ⟨hs23, p24, f22⟩ := St.publish (i := 0) (o := 0) (c := 3) (xs := [4, 8, 30]) hs20 rfl (show Els (rInt .i64) _ _ [(Value.int .i64 4), (Value.int .i64 8), (Value.int .i64 30)] [4, 8, 30] from ⟨_, _, rfl, (mk_int (show InK .i64 4 from by decide)), ⟨_, _, rfl, (mk_int (show InK .i64 8 from by decide)), ⟨_, _, rfl, (mk_int (show InK .i64 30 from by decide)), Els.nil⟩⟩⟩) (le_lit rfl) (le_lit rfl) (le_lit rfl)
 replace f19 := f19.step p24; clear p24 hs20
 refine Rg_op rfl (op_buildSlice (cs := [(Value.slice (some ⟨b7, 0, none⟩) [9, 2, (-1)].length 3), (Value.slice (some ⟨b13, 0, none⟩) [4, 8, 30].length 3)]) (parts := [(0, .tmp 20), (1, .tmp 21)]) ty23 ty22 hs23 (by decide) rfl ?_)
 intro b25 w26 hx29 p27 hs28
 replace f19 := f19.step p27; replace f22 := f22.step p27; clear p27 hs23
 have f31 := Gs.of_cells (p := (rInt .i64)) (e := 3) (bl := b1) (c := 2) (w := w26) (O := ks [(some b25, Obj.cells [(Value.slice (some ⟨b7, 0, none⟩) [9, 2, (-1)].length 3), (Value.slice (some ⟨b13, 0, none⟩) [4, 8, 30].length 3)].toArray 22), (some b1, Obj.cells [(Value.int .i64 0), (Value.int .i64 1)].toArray 3)] O) (show Els (rInt .i64) _ _ [(Value.int .i64 0), (Value.int .i64 1)] [0, 1] from ⟨_, _, rfl, (mk_int (show InK .i64 0 from by decide)), ⟨_, _, rfl, (mk_int (show InK .i64 1 from by decide)), Els.nil⟩⟩) rfl (le_lit rfl)
 have f32 := Gs.of_cells (p := (rSl (rInt .i64))) (e := 22) (bl := b25) (c := 2) (w := w26) (O := ks [(some b25, Obj.cells [(Value.slice (some ⟨b7, 0, none⟩) [9, 2, (-1)].length 3), (Value.slice (some ⟨b13, 0, none⟩) [4, 8, 30].length 3)].toArray 22), (some b1, (Obj.cells [(Value.int .i64 0), (Value.int .i64 1)].toArray 3))] O) (show Els (rSl (rInt .i64)) _ _ [(Value.slice (some ⟨b7, 0, none⟩) [9, 2, (-1)].length 3), (Value.slice (some ⟨b13, 0, none⟩) [4, 8, 30].length 3)] [[9, 2, (-1)], [4, 8, 30]] from ⟨_, _, rfl, (mk_sl f19), ⟨_, _, rfl, (mk_sl f22), Els.nil⟩⟩) rfl (le_lit rfl)
 refine Rg_op rfl (op_build (vs := [(Value.int .i64 3), (Value.slice (some ⟨b1, 0, none⟩) [0, 1].length 2), (Value.slice (some ⟨b25, 0, none⟩) [[9, 2, (-1)], [4, 8, 30]].length 2)]) (parts := [(0, .const (.int .i64 3)), (1, .tmp 19), (2, .tmp 22)]) ty25 pl25 rfl ?_)
 refine Rg_op rfl (op_alloc ty25 hs28 ?_)
 intro b33 w34 _ p35 hs36
 replace f19 := f19.step p35; replace f22 := f22.step p35; replace f31 := f31.step p35; replace f32 := f32.step p35; clear p35 hs28
 refine Rg_op_ (op_store (cs := [(Value.int .i64 0), (Value.slice none 0 0), (Value.slice none 0 0)]) (vs := [(Value.int .i64 3), (Value.slice (some ⟨b1, 0, none⟩) [0, 1].length 2), (Value.slice (some ⟨b25, 0, none⟩) [[9, 2, (-1)], [4, 8, 30]].length 2)]) (cs' := [(Value.int .i64 3), (Value.slice (some ⟨b1, 0, none⟩) [0, 1].length 2), (Value.slice (some ⟨b25, 0, none⟩) [[9, 2, (-1)], [4, 8, 30]].length 2)]) (bs' := [(some b33, Obj.cells [(Value.int .i64 3), (Value.slice (some ⟨b1, 0, none⟩) [0, 1].length 2), (Value.slice (some ⟨b25, 0, none⟩) [[9, 2, (-1)], [4, 8, 30]].length 2)].toArray 25), (some b25, (Obj.cells [(Value.slice (some ⟨b7, 0, none⟩) [9, 2, (-1)].length 3), (Value.slice (some ⟨b13, 0, none⟩) [4, 8, 30].length 3)].toArray 22)), (some b1, (Obj.cells [(Value.int .i64 0), (Value.int .i64 1)].toArray 3))]) (i := 0) ty25 hs36 rfl rfl rfl rfl rfl (le_lit rfl) rfl rfl rfl ?_)
 intro w38 p39 hs40
 replace f19 := f19.step p39; replace f22 := f22.step p39; replace f31 := f31.step p39; replace f32 := f32.step p39; clear p39 hs36
 refine Rg_nil (Wp_seq ?_)
 clear f19 f22
 refine Wp_region ?_
 refine Rg_op rfl (op_loadA (cs := [(Value.int .i64 3), (Value.slice (some ⟨b1, 0, none⟩) [0, 1].length 2), (Value.slice (some ⟨b25, 0, none⟩) [[9, 2, (-1)], [4, 8, 30]].length 2)]) (vs := [(Value.int .i64 3), (Value.slice (some ⟨b1, 0, none⟩) [0, 1].length 2), (Value.slice (some ⟨b25, 0, none⟩) [[9, 2, (-1)], [4, 8, 30]].length 2)]) (i := 0) ty25 hs40 rfl rfl rfl rfl ?_)
 obtain ⟨hs42, p43, f41⟩ := Gs.publish (i := 2) hs40 rfl f31
 replace f32 := f32.step p43; clear p43 hs40
 obtain ⟨hs45, p46, f44⟩ := Gs.publish (i := 1) hs42 rfl f32
 replace f41 := f41.step p46; clear p46 hs42
 replace hm := bd hm; obtain ⟨best_1, hv47, hm⟩ := hm
 refine Rg_op rfl (op_call Try.call18 (c18_clearing_Best (r_ := (⟨3, [0, 1], [[9, 2, (-1)], [4, 8, 30]]⟩ : XRound)) hs45.ltw (show InK .i64 3 from by decide) f41 f44 hv47) rfl ?_)
 rintro v48 w49 ⟨hx50, h51⟩
 have hs52 := hs45.call hx50
 have p53 := Step.ext (O := ks [(some b33, Obj.cells [(Value.int .i64 3), (Value.slice (some ⟨b1, 0, none⟩) [0, 1].length 2), (Value.slice (some ⟨b25, 0, none⟩) [[9, 2, (-1)], [4, 8, 30]].length 2)].toArray 25)] O) hx50
 clear hx50
 replace f41 := f41.step p53; replace f44 := f44.step p53; clear p53 hs45
 obtain ⟨v54, v55, rfl, h56, h57⟩ := h51
 obtain ⟨Aa, Ca, rfl, Fa⟩ := un_sl h56
 obtain ⟨rfl, Ra⟩ := h57
 refine Rg_op rfl (op_move (v := (Value.tuple [(Value.slice Aa best_1.1.length Ca), (Value.int .i64 best_1.2)].toArray)) rfl ?_)
 refine Rg_op rfl (op_extract (v := (Value.slice Aa best_1.1.length Ca)) rfl rfl ?_)
 refine Rg_op rfl (op_extract (v := (Value.int .i64 best_1.2)) rfl rfl ?_)
 refine Rg_op rfl (op_assign (v := (Value.slice Aa best_1.1.length Ca)) rfl ?_)
 refine Rg_op rfl (op_assign (v := (Value.int .i64 best_1.2)) rfl ?_)
 refine Rg_nil (Wp_seq (Wp_region ?_))
 refine Rg_op rfl (op_loadA (cs := [(Value.int .i64 3), (Value.slice (some ⟨b1, 0, none⟩) [0, 1].length 2), (Value.slice (some ⟨b25, 0, none⟩) [[9, 2, (-1)], [4, 8, 30]].length 2)]) (vs := [(Value.int .i64 3), (Value.slice (some ⟨b1, 0, none⟩) [0, 1].length 2), (Value.slice (some ⟨b25, 0, none⟩) [[9, 2, (-1)], [4, 8, 30]].length 2)]) (i := 0) ty25 hs52 rfl rfl rfl rfl ?_)
 refine Rg_op rfl (op_move (v := (Value.slice Aa best_1.1.length Ca)) rfl ?_)
 replace hm := bd hm; obtain ⟨value_1, hv60, hm⟩ := hm
 refine Rg_op rfl (op_call Try.call12 (c12_clearing_Value (r_ := (⟨3, [0, 1], [[9, 2, (-1)], [4, 8, 30]]⟩ : XRound)) (slots := best_1.1) hs52.ltw (show InK .i64 3 from by decide) f41 f44 Fa hv60) rfl ?_)
 rintro v61 w62 ⟨hx63, h64⟩
 have hs65 := hs52.call hx63
 have p66 := Step.ext (O := ks [(some b33, Obj.cells [(Value.int .i64 3), (Value.slice (some ⟨b1, 0, none⟩) [0, 1].length 2), (Value.slice (some ⟨b25, 0, none⟩) [[9, 2, (-1)], [4, 8, 30]].length 2)].toArray 25)] O) hx63
 clear hx63
 replace f41 := f41.step p66; replace f44 := f44.step p66; replace Fa := Fa.step p66; clear p66 hs52
 obtain ⟨v67, v68, rfl, h69, h70⟩ := h64
 obtain ⟨Ab, Cb, rfl, Fb⟩ := un_sl h69
 obtain ⟨rfl, Rb⟩ := h70
 refine Rg_op rfl (op_move (v := (Value.tuple [(Value.slice Ab value_1.1.length Cb), (Value.int .i64 value_1.2)].toArray)) rfl ?_)
 refine Rg_op rfl (op_extract (v := (Value.slice Ab value_1.1.length Cb)) rfl rfl ?_)
 refine Rg_op rfl (op_extract (v := (Value.int .i64 value_1.2)) rfl rfl ?_)
 refine Rg_op rfl (op_assign (v := (Value.slice Ab value_1.1.length Cb)) rfl ?_)
 refine Rg_op rfl (op_assign (v := (Value.int .i64 value_1.2)) rfl ?_)
 refine Rg_nil (Wp_seq (Wp_region ?_))
 refine Rg_op rfl (op_loadA (cs := [(Value.int .i64 3), (Value.slice (some ⟨b1, 0, none⟩) [0, 1].length 2), (Value.slice (some ⟨b25, 0, none⟩) [[9, 2, (-1)], [4, 8, 30]].length 2)]) (vs := [(Value.int .i64 3), (Value.slice (some ⟨b1, 0, none⟩) [0, 1].length 2), (Value.slice (some ⟨b25, 0, none⟩) [[9, 2, (-1)], [4, 8, 30]].length 2)]) (i := 0) ty25 hs65 rfl rfl rfl rfl ?_)
 refine Rg_op rfl (op_move (v := (Value.slice Aa best_1.1.length Ca)) rfl ?_)
 replace hm := bd hm; obtain ⟨cycles_1, hv73, hm⟩ := hm
 refine Rg_op rfl (op_call Try.call14 (c14_clearing_Cycles (r_ := (⟨3, [0, 1], [[9, 2, (-1)], [4, 8, 30]]⟩ : XRound)) (slots := best_1.1) hs65.ltw (show InK .i64 3 from by decide) f41 f44 Fa hv73) rfl ?_)
 rintro v74 w75 ⟨hx76, h77⟩
 have hs78 := hs65.call hx76
 have p79 := Step.ext (O := ks [(some b33, Obj.cells [(Value.int .i64 3), (Value.slice (some ⟨b1, 0, none⟩) [0, 1].length 2), (Value.slice (some ⟨b25, 0, none⟩) [[9, 2, (-1)], [4, 8, 30]].length 2)].toArray 25)] O) hx76
 clear hx76
 replace f41 := f41.step p79; replace f44 := f44.step p79; replace Fa := Fa.step p79; replace Fb := Fb.step p79; clear p79 hs65
 obtain ⟨v80, v81, rfl, h82, h83⟩ := h77
 obtain ⟨Ac, Cc, rfl, Fc⟩ := un_sl h82
 obtain ⟨rfl, Rc⟩ := h83
 refine Rg_op rfl (op_move (v := (Value.tuple [(Value.slice Ac cycles_1.1.length Cc), (Value.int .i64 cycles_1.2)].toArray)) rfl ?_)
 refine Rg_op rfl (op_extract (v := (Value.slice Ac cycles_1.1.length Cc)) rfl rfl ?_)
 refine Rg_op rfl (op_extract (v := (Value.int .i64 cycles_1.2)) rfl rfl ?_)
 refine Rg_op rfl (op_assign (v := (Value.slice Ac cycles_1.1.length Cc)) rfl ?_)
 refine Rg_op rfl (op_assign (v := (Value.int .i64 cycles_1.2)) rfl ?_)
 refine Rg_nil (Wp_seq ?_)
 refine Wp_reset [] [(1, (Value.pointer (some ⟨b33, 0, none⟩))), (2, (Value.slice Aa best_1.1.length Ca)), (3, (Value.int .i64 best_1.2)), (4, (Value.slice Ab value_1.1.length Cb)), (5, (Value.int .i64 value_1.2)), (6, (Value.slice Ac cycles_1.1.length Cc)), (7, (Value.int .i64 cycles_1.2))] rfl ⟨rfl, rfl, rfl, rfl, rfl, rfl, rfl, trivial⟩ fun ξ86 => ?_
 refine Wp_region ?_
 refine Rg_op rfl (op_loadA (cs := [(Value.int .i64 3), (Value.slice (some ⟨b1, 0, none⟩) [0, 1].length 2), (Value.slice (some ⟨b25, 0, none⟩) [[9, 2, (-1)], [4, 8, 30]].length 2)]) (vs := [(Value.int .i64 3), (Value.slice (some ⟨b1, 0, none⟩) [0, 1].length 2), (Value.slice (some ⟨b25, 0, none⟩) [[9, 2, (-1)], [4, 8, 30]].length 2)]) (i := 0) ty25 hs78 rfl rfl rfl rfl ?_)
 refine Rg_op rfl (op_buildSlice (cs := [(Value.int .i64 1), (Value.int .i64 2)]) (parts := [(0, .const (.int .i64 1)), (1, .const (.int .i64 2))]) ty22 ty3 hs78 (by decide) rfl ?_)
 intro b87 w88 hx91 p89 hs90
 replace f41 := f41.step p89; replace f44 := f44.step p89; replace Fa := Fa.step p89; replace Fb := Fb.step p89; replace Fc := Fc.step p89; clear p89 hs78
 obtain ⟨hs94, p95, f93⟩ := St.publish (i := 0) (o := 0) (c := 2) (xs := [1, 2]) hs90 rfl (show Els (rInt .i64) _ _ [(Value.int .i64 1), (Value.int .i64 2)] [1, 2] from ⟨_, _, rfl, (mk_int (show InK .i64 1 from by decide)), ⟨_, _, rfl, (mk_int (show InK .i64 2 from by decide)), Els.nil⟩⟩) (le_lit rfl) (le_lit rfl) (le_lit rfl)
 replace f41 := f41.step p95; replace f44 := f44.step p95; replace Fa := Fa.step p95; replace Fb := Fb.step p95; replace Fc := Fc.step p95; clear p95 hs90
 replace hm := bd hm; obtain ⟨cycles_2, hv96, hm⟩ := hm
 refine Rg_op rfl (op_call Try.call14 (c14_clearing_Cycles (r_ := (⟨3, [0, 1], [[9, 2, (-1)], [4, 8, 30]]⟩ : XRound)) (slots := [1, 2]) hs94.ltw (show InK .i64 3 from by decide) f41 f44 f93 hv96) rfl ?_)
 rintro v97 w98 ⟨hx99, h100⟩
 have hs101 := hs94.call hx99
 have p102 := Step.ext (O := ks [(some b33, Obj.cells [(Value.int .i64 3), (Value.slice (some ⟨b1, 0, none⟩) [0, 1].length 2), (Value.slice (some ⟨b25, 0, none⟩) [[9, 2, (-1)], [4, 8, 30]].length 2)].toArray 25)] O) hx99
 clear hx99
 replace f41 := f41.step p102; replace f44 := f44.step p102; replace Fa := Fa.step p102; replace Fb := Fb.step p102; replace Fc := Fc.step p102; replace f93 := f93.step p102; clear p102 hs94
 obtain ⟨v103, v104, rfl, h105, h106⟩ := h100
 obtain ⟨Ad, Cd, rfl, Fd⟩ := un_sl h105
 obtain ⟨rfl, Rd⟩ := h106
 refine Rg_op rfl (op_move (v := (Value.tuple [(Value.slice Ad cycles_2.1.length Cd), (Value.int .i64 cycles_2.2)].toArray)) rfl ?_)
 refine Rg_op rfl (op_extract (v := (Value.slice Ad cycles_2.1.length Cd)) rfl rfl ?_)
 refine Rg_op rfl (op_extract (v := (Value.int .i64 cycles_2.2)) rfl rfl ?_)
 refine Rg_op rfl (op_assign (v := (Value.slice Ad cycles_2.1.length Cd)) rfl ?_)
 refine Rg_op rfl (op_assign (v := (Value.int .i64 cycles_2.2)) rfl ?_)
 refine Rg_nil (Wp_seq ?_)
 clear f93
 refine Wp_region ?_
 refine Rg_op rfl (op_loadA (cs := [(Value.int .i64 3), (Value.slice (some ⟨b1, 0, none⟩) [0, 1].length 2), (Value.slice (some ⟨b25, 0, none⟩) [[9, 2, (-1)], [4, 8, 30]].length 2)]) (vs := [(Value.int .i64 3), (Value.slice (some ⟨b1, 0, none⟩) [0, 1].length 2), (Value.slice (some ⟨b25, 0, none⟩) [[9, 2, (-1)], [4, 8, 30]].length 2)]) (i := 0) ty25 hs101 rfl rfl rfl rfl ?_)
 refine Rg_op rfl (op_buildSlice (cs := [(Value.int .i64 0), (Value.int .i64 1)]) (parts := [(0, .const (.int .i64 0)), (1, .const (.int .i64 1))]) ty22 ty3 hs101 (by decide) rfl ?_)
 intro b109 w110 hx113 p111 hs112
 replace f41 := f41.step p111; replace f44 := f44.step p111; replace Fa := Fa.step p111; replace Fb := Fb.step p111; replace Fc := Fc.step p111; replace Fd := Fd.step p111; clear p111 hs101
 obtain ⟨hs116, p117, f115⟩ := St.publish (i := 0) (o := 0) (c := 2) (xs := [0, 1]) hs112 rfl (show Els (rInt .i64) _ _ [(Value.int .i64 0), (Value.int .i64 1)] [0, 1] from ⟨_, _, rfl, (mk_int (show InK .i64 0 from by decide)), ⟨_, _, rfl, (mk_int (show InK .i64 1 from by decide)), Els.nil⟩⟩) (le_lit rfl) (le_lit rfl) (le_lit rfl)
 replace f41 := f41.step p117; replace f44 := f44.step p117; replace Fa := Fa.step p117; replace Fb := Fb.step p117; replace Fc := Fc.step p117; replace Fd := Fd.step p117; clear p117 hs112
 replace hm := bd hm; obtain ⟨cycles_3, hv118, hm⟩ := hm
 refine Rg_op rfl (op_call Try.call14 (c14_clearing_Cycles (r_ := (⟨3, [0, 1], [[9, 2, (-1)], [4, 8, 30]]⟩ : XRound)) (slots := [0, 1]) hs116.ltw (show InK .i64 3 from by decide) f41 f44 f115 hv118) rfl ?_)
 rintro v119 w120 ⟨hx121, h122⟩
 have hs123 := hs116.call hx121
 have p124 := Step.ext (O := ks [(some b33, Obj.cells [(Value.int .i64 3), (Value.slice (some ⟨b1, 0, none⟩) [0, 1].length 2), (Value.slice (some ⟨b25, 0, none⟩) [[9, 2, (-1)], [4, 8, 30]].length 2)].toArray 25)] O) hx121
 clear hx121
 replace f41 := f41.step p124; replace f44 := f44.step p124; replace Fa := Fa.step p124; replace Fb := Fb.step p124; replace Fc := Fc.step p124; replace Fd := Fd.step p124; replace f115 := f115.step p124; clear p124 hs116
 obtain ⟨v125, v126, rfl, h127, h128⟩ := h122
 obtain ⟨Ae, Ce, rfl, Fe⟩ := un_sl h127
 obtain ⟨rfl, Re⟩ := h128
 refine Rg_op rfl (op_move (v := (Value.tuple [(Value.slice Ae cycles_3.1.length Ce), (Value.int .i64 cycles_3.2)].toArray)) rfl ?_)
 refine Rg_op rfl (op_extract (v := (Value.slice Ae cycles_3.1.length Ce)) rfl rfl ?_)
 refine Rg_op rfl (op_extract (v := (Value.int .i64 cycles_3.2)) rfl rfl ?_)
 refine Rg_op rfl (op_assign (v := (Value.slice Ae cycles_3.1.length Ce)) rfl ?_)
 refine Rg_op rfl (op_assign (v := (Value.int .i64 cycles_3.2)) rfl ?_)
 refine Rg_nil (Wp_seq ?_)
 clear f115
 refine Wp_region ?_
 refine Rg_op rfl (op_build (vs := [(Value.int .i64 1), (Value.slice none 0 0), (Value.slice none 0 0)]) (parts := [(0, .const (.int .i64 1))]) ty25 pl25 rfl ?_)
 replace hm := bd hm; obtain ⟨best_2, hv131, hm⟩ := hm
 refine Rg_op rfl (op_call Try.call18 (c18_clearing_Best (r_ := (⟨1, ([] : List Int), ([] : List (List Int))⟩ : XRound)) hs123.ltw (show InK .i64 1 from by decide) SlR.nil_ SlR.nil_ hv131) rfl ?_)
 rintro v132 w133 ⟨hx134, h135⟩
 have hs136 := hs123.call hx134
 have p137 := Step.ext (O := ks [(some b33, Obj.cells [(Value.int .i64 3), (Value.slice (some ⟨b1, 0, none⟩) [0, 1].length 2), (Value.slice (some ⟨b25, 0, none⟩) [[9, 2, (-1)], [4, 8, 30]].length 2)].toArray 25)] O) hx134
 clear hx134
 replace f41 := f41.step p137; replace f44 := f44.step p137; replace Fa := Fa.step p137; replace Fb := Fb.step p137; replace Fc := Fc.step p137; replace Fd := Fd.step p137; replace Fe := Fe.step p137; clear p137 hs123
 obtain ⟨v138, v139, rfl, h140, h141⟩ := h135
 obtain ⟨Af, Cf, rfl, Ff⟩ := un_sl h140
 obtain ⟨rfl, Rf⟩ := h141
 refine Rg_op rfl (op_move (v := (Value.tuple [(Value.slice Af best_2.1.length Cf), (Value.int .i64 best_2.2)].toArray)) rfl ?_)
 refine Rg_op rfl (op_extract (v := (Value.slice Af best_2.1.length Cf)) rfl rfl ?_)
 refine Rg_op rfl (op_extract (v := (Value.int .i64 best_2.2)) rfl rfl ?_)
 refine Rg_op rfl (op_assign (v := (Value.slice Af best_2.1.length Cf)) rfl ?_)
 refine Rg_op rfl (op_assign (v := (Value.int .i64 best_2.2)) rfl ?_)
 refine Rg_nil (Wp_seq (Wp_region ?_))
 refine Rg_op rfl (op_build (vs := [(Value.int .i64 0), (Value.slice none 0 0), (Value.slice none 0 0)]) (parts := []) ty25 pl25 rfl ?_)
 replace hm := bd hm; obtain ⟨best_3, hv144, hm⟩ := hm
 refine Rg_op rfl (op_call Try.call18 (c18_clearing_Best (r_ := (⟨0, ([] : List Int), ([] : List (List Int))⟩ : XRound)) hs136.ltw (show InK .i64 0 from by decide) SlR.nil_ SlR.nil_ hv144) rfl ?_)
 rintro v145 w146 ⟨hx147, h148⟩
 have hs149 := hs136.call hx147
 have p150 := Step.ext (O := ks [(some b33, Obj.cells [(Value.int .i64 3), (Value.slice (some ⟨b1, 0, none⟩) [0, 1].length 2), (Value.slice (some ⟨b25, 0, none⟩) [[9, 2, (-1)], [4, 8, 30]].length 2)].toArray 25)] O) hx147
 clear hx147
 replace f41 := f41.step p150; replace f44 := f44.step p150; replace Fa := Fa.step p150; replace Fb := Fb.step p150; replace Fc := Fc.step p150; replace Fd := Fd.step p150; replace Fe := Fe.step p150; replace Ff := Ff.step p150; clear p150 hs136
 obtain ⟨v151, v152, rfl, h153, h154⟩ := h148
 obtain ⟨Ag, Cg, rfl, Fg⟩ := un_sl h153
 obtain ⟨rfl, Rg⟩ := h154
 refine Rg_op rfl (op_move (v := (Value.tuple [(Value.slice Ag best_3.1.length Cg), (Value.int .i64 best_3.2)].toArray)) rfl ?_)
 refine Rg_op rfl (op_extract (v := (Value.slice Ag best_3.1.length Cg)) rfl rfl ?_)
 refine Rg_op rfl (op_extract (v := (Value.int .i64 best_3.2)) rfl rfl ?_)
 refine Rg_op rfl (op_assign (v := (Value.slice Ag best_3.1.length Cg)) rfl ?_)
 refine Rg_op rfl (op_assign (v := (Value.int .i64 best_3.2)) rfl ?_)
 refine Rg_nil (Wp_seq ?_)
 clear Fg
 refine Wp_reset [] [(1, (Value.pointer (some ⟨b33, 0, none⟩))), (2, (Value.slice Aa best_1.1.length Ca)), (3, (Value.int .i64 best_1.2)), (4, (Value.slice Ab value_1.1.length Cb)), (5, (Value.int .i64 value_1.2)), (6, (Value.slice Ac cycles_1.1.length Cc)), (7, (Value.int .i64 cycles_1.2)), (8, (Value.slice Ad cycles_2.1.length Cd)), (9, (Value.int .i64 cycles_2.2)), (10, (Value.slice Ae cycles_3.1.length Ce)), (11, (Value.int .i64 cycles_3.2)), (12, (Value.slice Af best_2.1.length Cf)), (13, (Value.int .i64 best_2.2)), (15, (Value.int .i64 best_3.2))] rfl ⟨rfl, rfl, rfl, rfl, rfl, rfl, rfl, rfl, rfl, rfl, rfl, rfl, rfl, rfl, trivial⟩ fun ξ157 => ?_
 refine Wp_region ?_
 refine Rg_op rfl (op_buildSlice (cs := [(Value.int .i64 0), (Value.int .i64 1)]) (parts := [(0, .const (.int .i64 0)), (1, .const (.int .i64 1))]) ty22 ty3 hs149 (by decide) rfl ?_)
 intro b158 w159 hx162 p160 hs161
 replace f41 := f41.step p160; replace f44 := f44.step p160; replace Fa := Fa.step p160; replace Fb := Fb.step p160; replace Fc := Fc.step p160; replace Fd := Fd.step p160; replace Fe := Fe.step p160; replace Ff := Ff.step p160; clear p160 hs149
 refine Rg_op rfl (op_buildSlice (cs := [(Value.int .i64 1), (Value.int .i64 2)]) (parts := [(0, .const (.int .i64 1)), (1, .const (.int .i64 2))]) ty22 ty3 hs161 (by decide) rfl ?_)
 intro b164 w165 hx168 p166 hs167
 replace f41 := f41.step p166; replace f44 := f44.step p166; replace Fa := Fa.step p166; replace Fb := Fb.step p166; replace Fc := Fc.step p166; replace Fd := Fd.step p166; replace Fe := Fe.step p166; replace Ff := Ff.step p166; clear p166 hs161
 refine Rg_op rfl (op_buildSlice (cs := [(Value.int .i64 2), (Value.int .i64 1)]) (parts := [(0, .const (.int .i64 2)), (1, .const (.int .i64 1))]) ty22 ty3 hs167 (by decide) rfl ?_)
 intro b170 w171 hx174 p172 hs173
 replace f41 := f41.step p172; replace f44 := f44.step p172; replace Fa := Fa.step p172; replace Fb := Fb.step p172; replace Fc := Fc.step p172; replace Fd := Fd.step p172; replace Fe := Fe.step p172; replace Ff := Ff.step p172; clear p172 hs167
 obtain ⟨hs177, p178, f176⟩ := St.publish (i := 1) (o := 0) (c := 2) (xs := [1, 2]) hs173 rfl (show Els (rInt .i64) _ _ [(Value.int .i64 1), (Value.int .i64 2)] [1, 2] from ⟨_, _, rfl, (mk_int (show InK .i64 1 from by decide)), ⟨_, _, rfl, (mk_int (show InK .i64 2 from by decide)), Els.nil⟩⟩) (le_lit rfl) (le_lit rfl) (le_lit rfl)
 replace f41 := f41.step p178; replace f44 := f44.step p178; replace Fa := Fa.step p178; replace Fb := Fb.step p178; replace Fc := Fc.step p178; replace Fd := Fd.step p178; replace Fe := Fe.step p178; replace Ff := Ff.step p178; clear p178 hs173
 obtain ⟨hs180, p181, f179⟩ := St.publish (i := 0) (o := 0) (c := 2) (xs := [2, 1]) hs177 rfl (show Els (rInt .i64) _ _ [(Value.int .i64 2), (Value.int .i64 1)] [2, 1] from ⟨_, _, rfl, (mk_int (show InK .i64 2 from by decide)), ⟨_, _, rfl, (mk_int (show InK .i64 1 from by decide)), Els.nil⟩⟩) (le_lit rfl) (le_lit rfl) (le_lit rfl)
 replace f41 := f41.step p181; replace f44 := f44.step p181; replace Fa := Fa.step p181; replace Fb := Fb.step p181; replace Fc := Fc.step p181; replace Fd := Fd.step p181; replace Fe := Fe.step p181; replace Ff := Ff.step p181; replace f176 := f176.step p181; clear p181 hs177
 refine Rg_op rfl (op_buildSlice (cs := [(Value.slice (some ⟨b164, 0, none⟩) [1, 2].length 2), (Value.slice (some ⟨b170, 0, none⟩) [2, 1].length 2)]) (parts := [(0, .tmp 64), (1, .tmp 65)]) ty23 ty22 hs180 (by decide) rfl ?_)
 intro b182 w183 hx186 p184 hs185
 replace f41 := f41.step p184; replace f44 := f44.step p184; replace Fa := Fa.step p184; replace Fb := Fb.step p184; replace Fc := Fc.step p184; replace Fd := Fd.step p184; replace Fe := Fe.step p184; replace Ff := Ff.step p184; replace f176 := f176.step p184; replace f179 := f179.step p184; clear p184 hs180
 have f188 := Gs.of_cells (p := (rInt .i64)) (e := 3) (bl := b158) (c := 2) (w := w183) (O := ks [(some b182, Obj.cells [(Value.slice (some ⟨b164, 0, none⟩) [1, 2].length 2), (Value.slice (some ⟨b170, 0, none⟩) [2, 1].length 2)].toArray 22), (some b158, Obj.cells [(Value.int .i64 0), (Value.int .i64 1)].toArray 3), (some b33, Obj.cells [(Value.int .i64 3), (Value.slice (some ⟨b1, 0, none⟩) [0, 1].length 2), (Value.slice (some ⟨b25, 0, none⟩) [[9, 2, (-1)], [4, 8, 30]].length 2)].toArray 25)] O) (show Els (rInt .i64) _ _ [(Value.int .i64 0), (Value.int .i64 1)] [0, 1] from ⟨_, _, rfl, (mk_int (show InK .i64 0 from by decide)), ⟨_, _, rfl, (mk_int (show InK .i64 1 from by decide)), Els.nil⟩⟩) rfl (le_lit rfl)
 have f189 := Gs.of_cells (p := (rSl (rInt .i64))) (e := 22) (bl := b182) (c := 2) (w := w183) (O := ks [(some b182, Obj.cells [(Value.slice (some ⟨b164, 0, none⟩) [1, 2].length 2), (Value.slice (some ⟨b170, 0, none⟩) [2, 1].length 2)].toArray 22), (some b158, (Obj.cells [(Value.int .i64 0), (Value.int .i64 1)].toArray 3)), (some b33, Obj.cells [(Value.int .i64 3), (Value.slice (some ⟨b1, 0, none⟩) [0, 1].length 2), (Value.slice (some ⟨b25, 0, none⟩) [[9, 2, (-1)], [4, 8, 30]].length 2)].toArray 25)] O) (show Els (rSl (rInt .i64)) _ _ [(Value.slice (some ⟨b164, 0, none⟩) [1, 2].length 2), (Value.slice (some ⟨b170, 0, none⟩) [2, 1].length 2)] [[1, 2], [2, 1]] from ⟨_, _, rfl, (mk_sl f176), ⟨_, _, rfl, (mk_sl f179), Els.nil⟩⟩) rfl (le_lit rfl)
 refine Rg_op rfl (op_build (vs := [(Value.int .i64 2), (Value.slice (some ⟨b158, 0, none⟩) [0, 1].length 2), (Value.slice (some ⟨b182, 0, none⟩) [[1, 2], [2, 1]].length 2)]) (parts := [(0, .const (.int .i64 2)), (1, .tmp 63), (2, .tmp 66)]) ty25 pl25 rfl ?_)
 refine Rg_op rfl (op_alloc ty25 hs185 ?_)
 intro b190 w191 _ p192 hs193
 replace f41 := f41.step p192; replace f44 := f44.step p192; replace Fa := Fa.step p192; replace Fb := Fb.step p192; replace Fc := Fc.step p192; replace Fd := Fd.step p192; replace Fe := Fe.step p192; replace Ff := Ff.step p192; replace f176 := f176.step p192; replace f179 := f179.step p192; replace f188 := f188.step p192; replace f189 := f189.step p192; clear p192 hs185
 refine Rg_op_ (op_store (cs := [(Value.int .i64 0), (Value.slice none 0 0), (Value.slice none 0 0)]) (vs := [(Value.int .i64 2), (Value.slice (some ⟨b158, 0, none⟩) [0, 1].length 2), (Value.slice (some ⟨b182, 0, none⟩) [[1, 2], [2, 1]].length 2)]) (cs' := [(Value.int .i64 2), (Value.slice (some ⟨b158, 0, none⟩) [0, 1].length 2), (Value.slice (some ⟨b182, 0, none⟩) [[1, 2], [2, 1]].length 2)]) (bs' := [(some b190, Obj.cells [(Value.int .i64 2), (Value.slice (some ⟨b158, 0, none⟩) [0, 1].length 2), (Value.slice (some ⟨b182, 0, none⟩) [[1, 2], [2, 1]].length 2)].toArray 25), (some b182, (Obj.cells [(Value.slice (some ⟨b164, 0, none⟩) [1, 2].length 2), (Value.slice (some ⟨b170, 0, none⟩) [2, 1].length 2)].toArray 22)), (some b158, (Obj.cells [(Value.int .i64 0), (Value.int .i64 1)].toArray 3)), (some b33, Obj.cells [(Value.int .i64 3), (Value.slice (some ⟨b1, 0, none⟩) [0, 1].length 2), (Value.slice (some ⟨b25, 0, none⟩) [[9, 2, (-1)], [4, 8, 30]].length 2)].toArray 25)]) (i := 0) ty25 hs193 rfl rfl rfl rfl rfl (le_lit rfl) rfl rfl rfl ?_)
 intro w195 p196 hs197
 replace f41 := f41.step p196; replace f44 := f44.step p196; replace Fa := Fa.step p196; replace Fb := Fb.step p196; replace Fc := Fc.step p196; replace Fd := Fd.step p196; replace Fe := Fe.step p196; replace Ff := Ff.step p196; replace f176 := f176.step p196; replace f179 := f179.step p196; replace f188 := f188.step p196; replace f189 := f189.step p196; clear p196 hs193
 refine Rg_nil (Wp_seq ?_)
 clear f176 f179
 refine Wp_region ?_
 refine Rg_op rfl (op_loadA (cs := [(Value.int .i64 2), (Value.slice (some ⟨b158, 0, none⟩) [0, 1].length 2), (Value.slice (some ⟨b182, 0, none⟩) [[1, 2], [2, 1]].length 2)]) (vs := [(Value.int .i64 2), (Value.slice (some ⟨b158, 0, none⟩) [0, 1].length 2), (Value.slice (some ⟨b182, 0, none⟩) [[1, 2], [2, 1]].length 2)]) (i := 0) ty25 hs197 rfl rfl rfl rfl ?_)
 obtain ⟨hs199, p200, f198⟩ := Gs.publish (i := 2) hs197 rfl f188
 replace f41 := f41.step p200; replace f44 := f44.step p200; replace Fa := Fa.step p200; replace Fb := Fb.step p200; replace Fc := Fc.step p200; replace Fd := Fd.step p200; replace Fe := Fe.step p200; replace Ff := Ff.step p200; replace f189 := f189.step p200; clear p200 hs197
 obtain ⟨hs202, p203, f201⟩ := Gs.publish (i := 1) hs199 rfl f189
 replace f41 := f41.step p203; replace f44 := f44.step p203; replace Fa := Fa.step p203; replace Fb := Fb.step p203; replace Fc := Fc.step p203; replace Fd := Fd.step p203; replace Fe := Fe.step p203; replace Ff := Ff.step p203; replace f198 := f198.step p203; clear p203 hs199
 replace hm := bd hm; obtain ⟨best_4, hv204, hm⟩ := hm
 refine Rg_op rfl (op_call Try.call18 (c18_clearing_Best (r_ := (⟨2, [0, 1], [[1, 2], [2, 1]]⟩ : XRound)) hs202.ltw (show InK .i64 2 from by decide) f198 f201 hv204) rfl ?_)
 rintro v205 w206 ⟨hx207, h208⟩
 have hs209 := hs202.call hx207
 have p210 := Step.ext (O := ks [(some b190, Obj.cells [(Value.int .i64 2), (Value.slice (some ⟨b158, 0, none⟩) [0, 1].length 2), (Value.slice (some ⟨b182, 0, none⟩) [[1, 2], [2, 1]].length 2)].toArray 25), (some b33, Obj.cells [(Value.int .i64 3), (Value.slice (some ⟨b1, 0, none⟩) [0, 1].length 2), (Value.slice (some ⟨b25, 0, none⟩) [[9, 2, (-1)], [4, 8, 30]].length 2)].toArray 25)] O) hx207
 clear hx207
 replace f41 := f41.step p210; replace f44 := f44.step p210; replace Fa := Fa.step p210; replace Fb := Fb.step p210; replace Fc := Fc.step p210; replace Fd := Fd.step p210; replace Fe := Fe.step p210; replace Ff := Ff.step p210; replace f198 := f198.step p210; replace f201 := f201.step p210; clear p210 hs202
 obtain ⟨v211, v212, rfl, h213, h214⟩ := h208
 obtain ⟨Ah, Ch, rfl, Fh⟩ := un_sl h213
 obtain ⟨rfl, Rh⟩ := h214
 refine Rg_op rfl (op_move (v := (Value.tuple [(Value.slice Ah best_4.1.length Ch), (Value.int .i64 best_4.2)].toArray)) rfl ?_)
 refine Rg_op rfl (op_extract (v := (Value.slice Ah best_4.1.length Ch)) rfl rfl ?_)
 refine Rg_op rfl (op_extract (v := (Value.int .i64 best_4.2)) rfl rfl ?_)
 refine Rg_op rfl (op_assign (v := (Value.slice Ah best_4.1.length Ch)) rfl ?_)
 refine Rg_op rfl (op_assign (v := (Value.int .i64 best_4.2)) rfl ?_)
 refine Rg_nil ?_
 refine Wp_reset [] [(1, (Value.pointer (some ⟨b33, 0, none⟩))), (2, (Value.slice Aa best_1.1.length Ca)), (3, (Value.int .i64 best_1.2)), (4, (Value.slice Ab value_1.1.length Cb)), (5, (Value.int .i64 value_1.2)), (6, (Value.slice Ac cycles_1.1.length Cc)), (7, (Value.int .i64 cycles_1.2)), (8, (Value.slice Ad cycles_2.1.length Cd)), (9, (Value.int .i64 cycles_2.2)), (10, (Value.slice Ae cycles_3.1.length Ce)), (11, (Value.int .i64 cycles_3.2)), (12, (Value.slice Af best_2.1.length Cf)), (13, (Value.int .i64 best_2.2)), (15, (Value.int .i64 best_3.2)), (17, (Value.slice Ah best_4.1.length Ch)), (18, (Value.int .i64 best_4.2))] rfl ⟨rfl, rfl, rfl, rfl, rfl, rfl, rfl, rfl, rfl, rfl, rfl, rfl, rfl, rfl, rfl, rfl, trivial⟩ fun ξ217 => ?_
 replace hm := jn_elim hm; obtain ⟨k219, hk220, hm⟩ := hm
 refine Wp_seqJ [0, 73, 74, 75, 76, 77, 78, 79, 80, 81, 82, 83, 84, 85, 86, 87, 88, 89, 90, 91, 92, 93, 94, 95, 96, 97, 98, 99, 100, 101, 102, 103, 104, 105, 106, 107, 108, 109, 110, 111, 112, 113, 114, 115, 116, 117, 118, 119, 120, 121, 122, 123, 124, 125, 126, 127, 128, 129, 130, 131, 132, 133, 134, 135, 136, 137, 138, 139, 140, 141, 142, 143, 144, 145, 146, 147, 148, 149, 150, 151, 152, 153, 154, 155, 156, 157] (fun fr w' => ∃ (v_1 : Bool) (Ebs : Ents), Ebs = [(some b190, Obj.cells [(Value.int .i64 2), (Value.slice (some ⟨b158, 0, none⟩) [0, 1].length 2), (Value.slice (some ⟨b182, 0, none⟩) [[1, 2], [2, 1]].length 2)].toArray 25), (some b33, Obj.cells [(Value.int .i64 3), (Value.slice (some ⟨b1, 0, none⟩) [0, 1].length 2), (Value.slice (some ⟨b25, 0, none⟩) [[9, 2, (-1)], [4, 8, 30]].length 2)].toArray 25)] ∧ fr [] [(0, (Value.bool v_1))] ∧ Step (ks [(some b190, Obj.cells [(Value.int .i64 2), (Value.slice (some ⟨b158, 0, none⟩) [0, 1].length 2), (Value.slice (some ⟨b182, 0, none⟩) [[1, 2], [2, 1]].length 2)].toArray 25), (some b33, Obj.cells [(Value.int .i64 3), (Value.slice (some ⟨b1, 0, none⟩) [0, 1].length 2), (Value.slice (some ⟨b25, 0, none⟩) [[9, 2, (-1)], [4, 8, 30]].length 2)].toArray 25)] O) w206 (ks Ebs O) w' ∧ St ⟨w, [], []⟩ O w' Ebs ∧ k219 v_1 = some x) ?_ ?_
 rintro ρ226 w222 ⟨v_1, Ebs, hEbs, hfr225, hst224, hs223, hm⟩
 replace hm := jnE1 hk220 hm
 subst hEbs; rw [hfr225.eq]; clear hfr225
 replace f41 := f41.step hst224; replace f44 := f44.step hst224; replace Fa := Fa.step hst224; replace Fb := Fb.step hst224; replace Fc := Fc.step hst224; replace Fd := Fd.step hst224; replace Fe := Fe.step hst224; replace Ff := Ff.step hst224; replace f198 := f198.step hst224; replace f201 := f201.step hst224; replace Fh := Fh.step hst224; clear hst224 hs209
 refine Wp_ret ?_
 have hz := step_all hs223
 replace f41 := f41.step hz; replace f44 := f44.step hz; replace Fa := Fa.step hz; replace Fb := Fb.step hz; replace Fc := Fc.step hz; replace Fd := Fd.step hz; replace Fe := Fe.step hz; replace Ff := Ff.step hz; replace f198 := f198.step hz; replace f201 := f201.step hz; replace Fh := Fh.step hz
 refine ⟨_, (show Closes [] _ _ from rfl), [(Value.bool v_1)], ⟨rfl, trivial⟩, hs223.ext, ?_⟩
 exact Vr.eq (a := vB) (x := v_1) rfl (Option.some.inj hm)
 intro K221 hK221
 have ch227 := Step.refl (ks [(some b190, Obj.cells [(Value.int .i64 2), (Value.slice (some ⟨b158, 0, none⟩) [0, 1].length 2), (Value.slice (some ⟨b182, 0, none⟩) [[1, 2], [2, 1]].length 2)].toArray 25), (some b33, Obj.cells [(Value.int .i64 3), (Value.slice (some ⟨b1, 0, none⟩) [0, 1].length 2), (Value.slice (some ⟨b25, 0, none⟩) [[9, 2, (-1)], [4, 8, 30]].length 2)].toArray 25)] O) w206
 refine Wp_region ?_
 refine Rg_op rfl (op_move (v := (Value.int .i64 best_1.2)) rfl ?_)
 refine Rg_op rfl (op_eql rfl rfl ?_)
 refine Rg_op rfl (op_move (v := (Value.bool (decide (best_1.2 = 0)))) rfl ?_)
 refine Rg_case (fun hg228 => ?_) (fun hg228 => ?_)
 replace hm := bif_t hm hg228
 refine Rg_opg rfl rfl rfl (op_move (v := (Value.slice Aa best_1.1.length Ca)) rfl ?_)
 refine Rg_opg rfl rfl rfl (op_buildSlice (cs := [(Value.int .i64 1), (Value.int .i64 0)]) (parts := [(0, .const (.int .i64 1)), (1, .const (.int .i64 0))]) ty22 ty3 hs209 (by decide) rfl ?_)
 intro b229 w230 hx233 p231 hs232
 replace f41 := f41.step p231; replace f44 := f44.step p231; replace Fa := Fa.step p231; replace Fb := Fb.step p231; replace Fc := Fc.step p231; replace Fd := Fd.step p231; replace Fe := Fe.step p231; replace Ff := Ff.step p231; replace f198 := f198.step p231; replace f201 := f201.step p231; replace Fh := Fh.step p231; replace ch227 := ch227.trans p231; clear p231 hs209
 obtain ⟨hs236, p237, f235⟩ := St.publish (i := 0) (o := 0) (c := 2) (xs := [1, 0]) hs232 rfl (show Els (rInt .i64) _ _ [(Value.int .i64 1), (Value.int .i64 0)] [1, 0] from ⟨_, _, rfl, (mk_int (show InK .i64 1 from by decide)), ⟨_, _, rfl, (mk_int (show InK .i64 0 from by decide)), Els.nil⟩⟩) (le_lit rfl) (le_lit rfl) (le_lit rfl)
 replace f41 := f41.step p237; replace f44 := f44.step p237; replace Fa := Fa.step p237; replace Fb := Fb.step p237; replace Fc := Fc.step p237; replace Fd := Fd.step p237; replace Fe := Fe.step p237; replace Ff := Ff.step p237; replace f198 := f198.step p237; replace f201 := f201.step p237; replace Fh := Fh.step p237; replace ch227 := ch227.trans p237; clear p237 hs232
 replace hm := bd hm; obtain ⟨sameints_1, hv238, hm⟩ := hm
 refine Rg_opg rfl rfl rfl (op_call Try.call16 (c16_overflightref37_SameInts (a := best_1.1) (b := [1, 0]) hs236.ltw Fa f235 hv238) rfl ?_)
 rintro v239 w240 ⟨hx241, h242⟩
 have hs243 := hs236.call hx241
 have p244 := Step.ext (O := ks [(some b190, Obj.cells [(Value.int .i64 2), (Value.slice (some ⟨b158, 0, none⟩) [0, 1].length 2), (Value.slice (some ⟨b182, 0, none⟩) [[1, 2], [2, 1]].length 2)].toArray 25), (some b33, Obj.cells [(Value.int .i64 3), (Value.slice (some ⟨b1, 0, none⟩) [0, 1].length 2), (Value.slice (some ⟨b25, 0, none⟩) [[9, 2, (-1)], [4, 8, 30]].length 2)].toArray 25)] O) hx241
 clear hx241
 replace f41 := f41.step p244; replace f44 := f44.step p244; replace Fa := Fa.step p244; replace Fb := Fb.step p244; replace Fc := Fc.step p244; replace Fd := Fd.step p244; replace Fe := Fe.step p244; replace Ff := Ff.step p244; replace f198 := f198.step p244; replace f201 := f201.step p244; replace Fh := Fh.step p244; replace f235 := f235.step p244; replace ch227 := ch227.trans p244; clear p244 hs236
 obtain rfl := h242
 refine Rg_op rfl (op_pick_t (v := (Value.bool sameints_1)) rfl rfl ?_)
 refine Rg_op rfl (op_move (v := (Value.bool sameints_1)) rfl ?_)
 refine Rg_case (fun hg246 => ?_) (fun hg246 => ?_)
 replace hm := bif_t hm hg246
 refine Rg_opg rfl rfl rfl (op_move (v := (Value.int .i64 value_1.2)) rfl ?_)
 refine Rg_opg rfl rfl rfl (op_eql rfl rfl ?_)
 refine Rg_op rfl (op_pick_t (v := (Value.bool (decide (value_1.2 = 0)))) rfl rfl ?_)
 refine Rg_op rfl (op_move (v := (Value.bool (decide (value_1.2 = 0)))) rfl ?_)
 refine Rg_case (fun hg247 => ?_) (fun hg247 => ?_)
 replace hm := bif_t hm hg247
 refine Rg_opg rfl rfl rfl (op_move (v := (Value.slice Ab value_1.1.length Cb)) rfl ?_)
 refine Rg_opg rfl rfl rfl (op_buildSlice (cs := [(Value.int .i64 6), (Value.int .i64 2)]) (parts := [(0, .const (.int .i64 6)), (1, .const (.int .i64 2))]) ty22 ty3 hs243 (by decide) rfl ?_)
 intro b248 w249 hx252 p250 hs251
 replace f41 := f41.step p250; replace f44 := f44.step p250; replace Fa := Fa.step p250; replace Fb := Fb.step p250; replace Fc := Fc.step p250; replace Fd := Fd.step p250; replace Fe := Fe.step p250; replace Ff := Ff.step p250; replace f198 := f198.step p250; replace f201 := f201.step p250; replace Fh := Fh.step p250; replace f235 := f235.step p250; replace ch227 := ch227.trans p250; clear p250 hs243
 obtain ⟨hs255, p256, f254⟩ := St.publish (i := 0) (o := 0) (c := 2) (xs := [6, 2]) hs251 rfl (show Els (rInt .i64) _ _ [(Value.int .i64 6), (Value.int .i64 2)] [6, 2] from ⟨_, _, rfl, (mk_int (show InK .i64 6 from by decide)), ⟨_, _, rfl, (mk_int (show InK .i64 2 from by decide)), Els.nil⟩⟩) (le_lit rfl) (le_lit rfl) (le_lit rfl)
 replace f41 := f41.step p256; replace f44 := f44.step p256; replace Fa := Fa.step p256; replace Fb := Fb.step p256; replace Fc := Fc.step p256; replace Fd := Fd.step p256; replace Fe := Fe.step p256; replace Ff := Ff.step p256; replace f198 := f198.step p256; replace f201 := f201.step p256; replace Fh := Fh.step p256; replace f235 := f235.step p256; replace ch227 := ch227.trans p256; clear p256 hs251
 replace hm := bd hm; obtain ⟨sameints_2, hv257, hm⟩ := hm
 refine Rg_opg rfl rfl rfl (op_call Try.call16 (c16_overflightref37_SameInts (a := value_1.1) (b := [6, 2]) hs255.ltw Fb f254 hv257) rfl ?_)
 rintro v258 w259 ⟨hx260, h261⟩
 have hs262 := hs255.call hx260
 have p263 := Step.ext (O := ks [(some b190, Obj.cells [(Value.int .i64 2), (Value.slice (some ⟨b158, 0, none⟩) [0, 1].length 2), (Value.slice (some ⟨b182, 0, none⟩) [[1, 2], [2, 1]].length 2)].toArray 25), (some b33, Obj.cells [(Value.int .i64 3), (Value.slice (some ⟨b1, 0, none⟩) [0, 1].length 2), (Value.slice (some ⟨b25, 0, none⟩) [[9, 2, (-1)], [4, 8, 30]].length 2)].toArray 25)] O) hx260
 clear hx260
 replace f41 := f41.step p263; replace f44 := f44.step p263; replace Fa := Fa.step p263; replace Fb := Fb.step p263; replace Fc := Fc.step p263; replace Fd := Fd.step p263; replace Fe := Fe.step p263; replace Ff := Ff.step p263; replace f198 := f198.step p263; replace f201 := f201.step p263; replace Fh := Fh.step p263; replace f235 := f235.step p263; replace f254 := f254.step p263; replace ch227 := ch227.trans p263; clear p263 hs255
 obtain rfl := h261
 refine Rg_op rfl (op_pick_t (v := (Value.bool sameints_2)) rfl rfl ?_)
 refine Rg_op rfl (op_move (v := (Value.bool sameints_2)) rfl ?_)
 refine Rg_case (fun hg265 => ?_) (fun hg265 => ?_)
 replace hm := bif_t hm hg265
 refine Rg_opg rfl rfl rfl (op_move (v := (Value.int .i64 cycles_1.2)) rfl ?_)
 refine Rg_opg rfl rfl rfl (op_eql rfl rfl ?_)
 refine Rg_op rfl (op_pick_t (v := (Value.bool (decide (cycles_1.2 = 0)))) rfl rfl ?_)
 refine Rg_op rfl (op_move (v := (Value.bool (decide (cycles_1.2 = 0)))) rfl ?_)
 refine Rg_case (fun hg266 => ?_) (fun hg266 => ?_)
 replace hm := bif_t hm hg266
 refine Rg_opg rfl rfl rfl (op_move (v := (Value.slice Ac cycles_1.1.length Cc)) rfl ?_)
 refine Rg_opg rfl rfl rfl (op_buildSlice (cs := [(Value.int .i64 0), (Value.int .i64 1)]) (parts := [(0, .const (.int .i64 0)), (1, .const (.int .i64 1))]) ty22 ty3 hs262 (by decide) rfl ?_)
 intro b267 w268 hx271 p269 hs270
 replace f41 := f41.step p269; replace f44 := f44.step p269; replace Fa := Fa.step p269; replace Fb := Fb.step p269; replace Fc := Fc.step p269; replace Fd := Fd.step p269; replace Fe := Fe.step p269; replace Ff := Ff.step p269; replace f198 := f198.step p269; replace f201 := f201.step p269; replace Fh := Fh.step p269; replace f235 := f235.step p269; replace f254 := f254.step p269; replace ch227 := ch227.trans p269; clear p269 hs262
 obtain ⟨hs274, p275, f273⟩ := St.publish (i := 0) (o := 0) (c := 2) (xs := [0, 1]) hs270 rfl (show Els (rInt .i64) _ _ [(Value.int .i64 0), (Value.int .i64 1)] [0, 1] from ⟨_, _, rfl, (mk_int (show InK .i64 0 from by decide)), ⟨_, _, rfl, (mk_int (show InK .i64 1 from by decide)), Els.nil⟩⟩) (le_lit rfl) (le_lit rfl) (le_lit rfl)
 replace f41 := f41.step p275; replace f44 := f44.step p275; replace Fa := Fa.step p275; replace Fb := Fb.step p275; replace Fc := Fc.step p275; replace Fd := Fd.step p275; replace Fe := Fe.step p275; replace Ff := Ff.step p275; replace f198 := f198.step p275; replace f201 := f201.step p275; replace Fh := Fh.step p275; replace f235 := f235.step p275; replace f254 := f254.step p275; replace ch227 := ch227.trans p275; clear p275 hs270
 refine Rg_opg rfl rfl rfl (op_buildSlice (cs := [(Value.slice (some ⟨b267, 0, none⟩) [0, 1].length 2)]) (parts := [(0, .tmp 95)]) ty23 ty22 hs274 (by decide) rfl ?_)
 intro b276 w277 hx280 p278 hs279
 replace f41 := f41.step p278; replace f44 := f44.step p278; replace Fa := Fa.step p278; replace Fb := Fb.step p278; replace Fc := Fc.step p278; replace Fd := Fd.step p278; replace Fe := Fe.step p278; replace Ff := Ff.step p278; replace f198 := f198.step p278; replace f201 := f201.step p278; replace Fh := Fh.step p278; replace f235 := f235.step p278; replace f254 := f254.step p278; replace f273 := f273.step p278; replace ch227 := ch227.trans p278; clear p278 hs274
 obtain ⟨hs283, p284, f282⟩ := St.publish (i := 0) (o := 0) (c := 1) (xs := [[0, 1]]) hs279 rfl (show Els (rSl (rInt .i64)) _ _ [(Value.slice (some ⟨b267, 0, none⟩) [0, 1].length 2)] [[0, 1]] from ⟨_, _, rfl, (mk_sl f273), Els.nil⟩) (le_lit rfl) (le_lit rfl) (le_lit rfl)
 replace f41 := f41.step p284; replace f44 := f44.step p284; replace Fa := Fa.step p284; replace Fb := Fb.step p284; replace Fc := Fc.step p284; replace Fd := Fd.step p284; replace Fe := Fe.step p284; replace Ff := Ff.step p284; replace f198 := f198.step p284; replace f201 := f201.step p284; replace Fh := Fh.step p284; replace f235 := f235.step p284; replace f254 := f254.step p284; replace f273 := f273.step p284; replace ch227 := ch227.trans p284; clear p284 hs279
 replace hm := bd hm; obtain ⟨samelists_1, hv285, hm⟩ := hm
 refine Rg_opg rfl rfl rfl (op_call Try.call17 (c17_overflightref38_SameLists (a := cycles_1.1) (b := [[0, 1]]) hs283.ltw Fc f282 hv285) rfl ?_)
 rintro v286 w287 ⟨hx288, h289⟩
 have hs290 := hs283.call hx288
 have p291 := Step.ext (O := ks [(some b190, Obj.cells [(Value.int .i64 2), (Value.slice (some ⟨b158, 0, none⟩) [0, 1].length 2), (Value.slice (some ⟨b182, 0, none⟩) [[1, 2], [2, 1]].length 2)].toArray 25), (some b33, Obj.cells [(Value.int .i64 3), (Value.slice (some ⟨b1, 0, none⟩) [0, 1].length 2), (Value.slice (some ⟨b25, 0, none⟩) [[9, 2, (-1)], [4, 8, 30]].length 2)].toArray 25)] O) hx288
 clear hx288
 replace f41 := f41.step p291; replace f44 := f44.step p291; replace Fa := Fa.step p291; replace Fb := Fb.step p291; replace Fc := Fc.step p291; replace Fd := Fd.step p291; replace Fe := Fe.step p291; replace Ff := Ff.step p291; replace f198 := f198.step p291; replace f201 := f201.step p291; replace Fh := Fh.step p291; replace f235 := f235.step p291; replace f254 := f254.step p291; replace f273 := f273.step p291; replace f282 := f282.step p291; replace ch227 := ch227.trans p291; clear p291 hs283
 obtain rfl := h289
 refine Rg_op rfl (op_pick_t (v := (Value.bool samelists_1)) rfl rfl ?_)
 refine Rg_op rfl (op_move (v := (Value.bool samelists_1)) rfl ?_)
 refine Rg_case (fun hg293 => ?_) (fun hg293 => ?_)
 replace hm := bif_t hm hg293
 refine Rg_opg rfl rfl rfl (op_move (v := (Value.int .i64 cycles_2.2)) rfl ?_)
 refine Rg_opg rfl rfl rfl (op_eql rfl rfl ?_)
 refine Rg_op rfl (op_pick_t (v := (Value.bool (decide (cycles_2.2 = 0)))) rfl rfl ?_)
 refine Rg_op rfl (op_move (v := (Value.bool (decide (cycles_2.2 = 0)))) rfl ?_)
 refine Rg_case (fun hg294 => ?_) (fun hg294 => ?_)
 replace hm := bif_t hm hg294
 refine Rg_opg rfl rfl rfl (op_move (v := (Value.slice Ad cycles_2.1.length Cd)) rfl ?_)
 refine Rg_opg rfl rfl rfl (op_buildSlice (cs := [(Value.int .i64 1), (Value.int .i64 0)]) (parts := [(0, .const (.int .i64 1)), (1, .const (.int .i64 0))]) ty22 ty3 hs290 (by decide) rfl ?_)
 intro b295 w296 hx299 p297 hs298
 replace f41 := f41.step p297; replace f44 := f44.step p297; replace Fa := Fa.step p297; replace Fb := Fb.step p297; replace Fc := Fc.step p297; replace Fd := Fd.step p297; replace Fe := Fe.step p297; replace Ff := Ff.step p297; replace f198 := f198.step p297; replace f201 := f201.step p297; replace Fh := Fh.step p297; replace f235 := f235.step p297; replace f254 := f254.step p297; replace f273 := f273.step p297; replace f282 := f282.step p297; replace ch227 := ch227.trans p297; clear p297 hs290
 obtain ⟨hs302, p303, f301⟩ := St.publish (i := 0) (o := 0) (c := 2) (xs := [1, 0]) hs298 rfl (show Els (rInt .i64) _ _ [(Value.int .i64 1), (Value.int .i64 0)] [1, 0] from ⟨_, _, rfl, (mk_int (show InK .i64 1 from by decide)), ⟨_, _, rfl, (mk_int (show InK .i64 0 from by decide)), Els.nil⟩⟩) (le_lit rfl) (le_lit rfl) (le_lit rfl)
 replace f41 := f41.step p303; replace f44 := f44.step p303; replace Fa := Fa.step p303; replace Fb := Fb.step p303; replace Fc := Fc.step p303; replace Fd := Fd.step p303; replace Fe := Fe.step p303; replace Ff := Ff.step p303; replace f198 := f198.step p303; replace f201 := f201.step p303; replace Fh := Fh.step p303; replace f235 := f235.step p303; replace f254 := f254.step p303; replace f273 := f273.step p303; replace f282 := f282.step p303; replace ch227 := ch227.trans p303; clear p303 hs298
 refine Rg_opg rfl rfl rfl (op_buildSlice (cs := [(Value.slice (some ⟨b295, 0, none⟩) [1, 0].length 2)]) (parts := [(0, .tmp 105)]) ty23 ty22 hs302 (by decide) rfl ?_)
 intro b304 w305 hx308 p306 hs307
 replace f41 := f41.step p306; replace f44 := f44.step p306; replace Fa := Fa.step p306; replace Fb := Fb.step p306; replace Fc := Fc.step p306; replace Fd := Fd.step p306; replace Fe := Fe.step p306; replace Ff := Ff.step p306; replace f198 := f198.step p306; replace f201 := f201.step p306; replace Fh := Fh.step p306; replace f235 := f235.step p306; replace f254 := f254.step p306; replace f273 := f273.step p306; replace f282 := f282.step p306; replace f301 := f301.step p306; replace ch227 := ch227.trans p306; clear p306 hs302
 obtain ⟨hs311, p312, f310⟩ := St.publish (i := 0) (o := 0) (c := 1) (xs := [[1, 0]]) hs307 rfl (show Els (rSl (rInt .i64)) _ _ [(Value.slice (some ⟨b295, 0, none⟩) [1, 0].length 2)] [[1, 0]] from ⟨_, _, rfl, (mk_sl f301), Els.nil⟩) (le_lit rfl) (le_lit rfl) (le_lit rfl)
 replace f41 := f41.step p312; replace f44 := f44.step p312; replace Fa := Fa.step p312; replace Fb := Fb.step p312; replace Fc := Fc.step p312; replace Fd := Fd.step p312; replace Fe := Fe.step p312; replace Ff := Ff.step p312; replace f198 := f198.step p312; replace f201 := f201.step p312; replace Fh := Fh.step p312; replace f235 := f235.step p312; replace f254 := f254.step p312; replace f273 := f273.step p312; replace f282 := f282.step p312; replace f301 := f301.step p312; replace ch227 := ch227.trans p312; clear p312 hs307
 replace hm := bd hm; obtain ⟨samelists_2, hv313, hm⟩ := hm
 refine Rg_opg rfl rfl rfl (op_call Try.call17 (c17_overflightref38_SameLists (a := cycles_2.1) (b := [[1, 0]]) hs311.ltw Fd f310 hv313) rfl ?_)
 rintro v314 w315 ⟨hx316, h317⟩
 have hs318 := hs311.call hx316
 have p319 := Step.ext (O := ks [(some b190, Obj.cells [(Value.int .i64 2), (Value.slice (some ⟨b158, 0, none⟩) [0, 1].length 2), (Value.slice (some ⟨b182, 0, none⟩) [[1, 2], [2, 1]].length 2)].toArray 25), (some b33, Obj.cells [(Value.int .i64 3), (Value.slice (some ⟨b1, 0, none⟩) [0, 1].length 2), (Value.slice (some ⟨b25, 0, none⟩) [[9, 2, (-1)], [4, 8, 30]].length 2)].toArray 25)] O) hx316
 clear hx316
 replace f41 := f41.step p319; replace f44 := f44.step p319; replace Fa := Fa.step p319; replace Fb := Fb.step p319; replace Fc := Fc.step p319; replace Fd := Fd.step p319; replace Fe := Fe.step p319; replace Ff := Ff.step p319; replace f198 := f198.step p319; replace f201 := f201.step p319; replace Fh := Fh.step p319; replace f235 := f235.step p319; replace f254 := f254.step p319; replace f273 := f273.step p319; replace f282 := f282.step p319; replace f301 := f301.step p319; replace f310 := f310.step p319; replace ch227 := ch227.trans p319; clear p319 hs311
 obtain rfl := h317
 refine Rg_op rfl (op_pick_t (v := (Value.bool samelists_2)) rfl rfl ?_)
 refine Rg_op rfl (op_move (v := (Value.bool samelists_2)) rfl ?_)
 refine Rg_case (fun hg321 => ?_) (fun hg321 => ?_)
 replace hm := bif_t hm hg321
 refine Rg_opg rfl rfl rfl (op_move (v := (Value.int .i64 cycles_3.2)) rfl ?_)
 refine Rg_opg rfl rfl rfl (op_eql rfl rfl ?_)
 refine Rg_op rfl (op_pick_t (v := (Value.bool (decide (cycles_3.2 = 0)))) rfl rfl ?_)
 refine Rg_op rfl (op_move (v := (Value.bool (decide (cycles_3.2 = 0)))) rfl ?_)
 refine Rg_case (fun hg322 => ?_) (fun hg322 => ?_)
 replace hm := bif_t hm hg322
 refine Rg_opg rfl rfl rfl (op_move (v := (Value.slice Ae cycles_3.1.length Ce)) rfl ?_)
 refine Rg_opg rfl rfl rfl (op_len Try.underlying23 rfl ?_)
 have rl323 := inK_len Fe
 refine Rg_opg rfl rfl rfl (op_eql rfl rfl ?_)
 refine Rg_op rfl (op_pick_t (v := (Value.bool (decide ((cycles_3.1.length : Int) = 0)))) rfl rfl ?_)
 refine Rg_op rfl (op_move (v := (Value.bool (decide ((cycles_3.1.length : Int) = 0)))) rfl ?_)
 refine Rg_case (fun hg324 => ?_) (fun hg324 => ?_)
 replace hm := bif_t hm hg324
 refine Rg_opg rfl rfl rfl (op_move (v := (Value.int .i64 best_2.2)) rfl ?_)
 refine Rg_opg rfl rfl rfl (op_eql rfl rfl ?_)
 refine Rg_op rfl (op_pick_t (v := (Value.bool (decide (best_2.2 = 0)))) rfl rfl ?_)
 refine Rg_op rfl (op_move (v := (Value.bool (decide (best_2.2 = 0)))) rfl ?_)
 refine Rg_case (fun hg325 => ?_) (fun hg325 => ?_)
 replace hm := bif_t hm hg325
 refine Rg_opg rfl rfl rfl (op_move (v := (Value.slice Af best_2.1.length Cf)) rfl ?_)
 refine Rg_opg rfl rfl rfl (op_len Try.underlying22 rfl ?_)
 have rl326 := inK_len Ff
 refine Rg_opg rfl rfl rfl (op_eql rfl rfl ?_)
 refine Rg_op rfl (op_pick_t (v := (Value.bool (decide ((best_2.1.length : Int) = 0)))) rfl rfl ?_)
 refine Rg_op rfl (op_move (v := (Value.bool (decide ((best_2.1.length : Int) = 0)))) rfl ?_)
 refine Rg_case (fun hg327 => ?_) (fun hg327 => ?_)
 replace hm := bif_t hm hg327
 refine Rg_opg rfl rfl rfl (op_move (v := (Value.int .i64 best_3.2)) rfl ?_)
 refine Rg_opg rfl rfl rfl (op_eql rfl rfl ?_)
 refine Rg_op rfl (op_pick_t (v := (Value.bool (decide (best_3.2 = 370)))) rfl rfl ?_)
 refine Rg_op rfl (op_move (v := (Value.bool (decide (best_3.2 = 370)))) rfl ?_)
 refine Rg_case (fun hg328 => ?_) (fun hg328 => ?_)
 replace hm := bif_t hm hg328
 refine Rg_opg rfl rfl rfl (op_move (v := (Value.int .i64 best_4.2)) rfl ?_)
 refine Rg_opg rfl rfl rfl (op_eql rfl rfl ?_)
 refine Rg_op rfl (op_pick_t (v := (Value.bool (decide (best_4.2 = 0)))) rfl rfl ?_)
 refine Rg_op rfl (op_move (v := (Value.bool (decide (best_4.2 = 0)))) rfl ?_)
 refine Rg_case (fun hg329 => ?_) (fun hg329 => ?_)
 replace hm := bif_t hm hg329
 refine Rg_opg rfl rfl rfl (op_move (v := (Value.slice Ah best_4.1.length Ch)) rfl ?_)
 refine Rg_opg rfl rfl rfl (op_buildSlice (cs := [(Value.int .i64 0), (Value.int .i64 1)]) (parts := [(0, .const (.int .i64 0)), (1, .const (.int .i64 1))]) ty22 ty3 hs318 (by decide) rfl ?_)
 intro b330 w331 hx334 p332 hs333
 replace f41 := f41.step p332; replace f44 := f44.step p332; replace Fa := Fa.step p332; replace Fb := Fb.step p332; replace Fc := Fc.step p332; replace Fd := Fd.step p332; replace Fe := Fe.step p332; replace Ff := Ff.step p332; replace f198 := f198.step p332; replace f201 := f201.step p332; replace Fh := Fh.step p332; replace f235 := f235.step p332; replace f254 := f254.step p332; replace f273 := f273.step p332; replace f282 := f282.step p332; replace f301 := f301.step p332; replace f310 := f310.step p332; replace ch227 := ch227.trans p332; clear p332 hs318
 obtain ⟨hs337, p338, f336⟩ := St.publish (i := 0) (o := 0) (c := 2) (xs := [0, 1]) hs333 rfl (show Els (rInt .i64) _ _ [(Value.int .i64 0), (Value.int .i64 1)] [0, 1] from ⟨_, _, rfl, (mk_int (show InK .i64 0 from by decide)), ⟨_, _, rfl, (mk_int (show InK .i64 1 from by decide)), Els.nil⟩⟩) (le_lit rfl) (le_lit rfl) (le_lit rfl)
 replace f41 := f41.step p338; replace f44 := f44.step p338; replace Fa := Fa.step p338; replace Fb := Fb.step p338; replace Fc := Fc.step p338; replace Fd := Fd.step p338; replace Fe := Fe.step p338; replace Ff := Ff.step p338; replace f198 := f198.step p338; replace f201 := f201.step p338; replace Fh := Fh.step p338; replace f235 := f235.step p338; replace f254 := f254.step p338; replace f273 := f273.step p338; replace f282 := f282.step p338; replace f301 := f301.step p338; replace f310 := f310.step p338; replace ch227 := ch227.trans p338; clear p338 hs333
 replace hm := bd hm; obtain ⟨sameints_3, hv339, hm⟩ := hm
 refine Rg_opg rfl rfl rfl (op_call Try.call16 (c16_overflightref37_SameInts (a := best_4.1) (b := [0, 1]) hs337.ltw Fh f336 hv339) rfl ?_)
 rintro v340 w341 ⟨hx342, h343⟩
 have hs344 := hs337.call hx342
 have p345 := Step.ext (O := ks [(some b190, Obj.cells [(Value.int .i64 2), (Value.slice (some ⟨b158, 0, none⟩) [0, 1].length 2), (Value.slice (some ⟨b182, 0, none⟩) [[1, 2], [2, 1]].length 2)].toArray 25), (some b33, Obj.cells [(Value.int .i64 3), (Value.slice (some ⟨b1, 0, none⟩) [0, 1].length 2), (Value.slice (some ⟨b25, 0, none⟩) [[9, 2, (-1)], [4, 8, 30]].length 2)].toArray 25)] O) hx342
 clear hx342
 replace f41 := f41.step p345; replace f44 := f44.step p345; replace Fa := Fa.step p345; replace Fb := Fb.step p345; replace Fc := Fc.step p345; replace Fd := Fd.step p345; replace Fe := Fe.step p345; replace Ff := Ff.step p345; replace f198 := f198.step p345; replace f201 := f201.step p345; replace Fh := Fh.step p345; replace f235 := f235.step p345; replace f254 := f254.step p345; replace f273 := f273.step p345; replace f282 := f282.step p345; replace f301 := f301.step p345; replace f310 := f310.step p345; replace f336 := f336.step p345; replace ch227 := ch227.trans p345; clear p345 hs337
 obtain rfl := h343
 refine Rg_op rfl (op_pick_t (v := (Value.bool sameints_3)) rfl rfl ?_)
 refine Rg_op rfl (op_move (v := (Value.bool sameints_3)) rfl ?_)
 refine Rg_case (fun hg347 => ?_) (fun hg347 => ?_)
 replace hm := bif_t hm hg347
 refine Rg_opg rfl rfl rfl (op_loadA (cs := [(Value.int .i64 3), (Value.slice (some ⟨b1, 0, none⟩) [0, 1].length 2), (Value.slice (some ⟨b25, 0, none⟩) [[9, 2, (-1)], [4, 8, 30]].length 2)]) (vs := [(Value.int .i64 3), (Value.slice (some ⟨b1, 0, none⟩) [0, 1].length 2), (Value.slice (some ⟨b25, 0, none⟩) [[9, 2, (-1)], [4, 8, 30]].length 2)]) (i := 1) ty25 hs344 rfl rfl rfl rfl ?_)
 refine Rg_opg rfl rfl rfl (op_move (v := (Value.slice Aa best_1.1.length Ca)) rfl ?_)
 replace hm := bd hm; obtain ⟨verify_1, hv348, hm⟩ := hm
 refine Rg_opg rfl rfl rfl (op_call Try.call20 (c20_clearing_Verify (r_ := (⟨3, [0, 1], [[9, 2, (-1)], [4, 8, 30]]⟩ : XRound)) (slots := best_1.1) hs344.ltw (show InK .i64 3 from by decide) f41 f44 Fa hv348) rfl ?_)
 rintro v349 w350 ⟨hx351, h352⟩
 have hs353 := hs344.call hx351
 have p354 := Step.ext (O := ks [(some b190, Obj.cells [(Value.int .i64 2), (Value.slice (some ⟨b158, 0, none⟩) [0, 1].length 2), (Value.slice (some ⟨b182, 0, none⟩) [[1, 2], [2, 1]].length 2)].toArray 25), (some b33, Obj.cells [(Value.int .i64 3), (Value.slice (some ⟨b1, 0, none⟩) [0, 1].length 2), (Value.slice (some ⟨b25, 0, none⟩) [[9, 2, (-1)], [4, 8, 30]].length 2)].toArray 25)] O) hx351
 clear hx351
 replace f41 := f41.step p354; replace f44 := f44.step p354; replace Fa := Fa.step p354; replace Fb := Fb.step p354; replace Fc := Fc.step p354; replace Fd := Fd.step p354; replace Fe := Fe.step p354; replace Ff := Ff.step p354; replace f198 := f198.step p354; replace f201 := f201.step p354; replace Fh := Fh.step p354; replace f235 := f235.step p354; replace f254 := f254.step p354; replace f273 := f273.step p354; replace f282 := f282.step p354; replace f301 := f301.step p354; replace f310 := f310.step p354; replace f336 := f336.step p354; replace ch227 := ch227.trans p354; clear p354 hs344
 obtain ⟨rfl, Ri⟩ := h352
 refine Rg_opg rfl rfl rfl (op_eql rfl rfl ?_)
 refine Rg_op rfl (op_pick_t (v := (Value.bool (decide (verify_1 = 0)))) rfl rfl ?_)
 refine Rg_op rfl (op_move (v := (Value.bool (decide (verify_1 = 0)))) rfl ?_)
 refine Rg_case (fun hg356 => ?_) (fun hg356 => ?_)
 replace hm := bif_t hm hg356
 refine Rg_opg rfl rfl rfl (op_loadA (cs := [(Value.int .i64 3), (Value.slice (some ⟨b1, 0, none⟩) [0, 1].length 2), (Value.slice (some ⟨b25, 0, none⟩) [[9, 2, (-1)], [4, 8, 30]].length 2)]) (vs := [(Value.int .i64 3), (Value.slice (some ⟨b1, 0, none⟩) [0, 1].length 2), (Value.slice (some ⟨b25, 0, none⟩) [[9, 2, (-1)], [4, 8, 30]].length 2)]) (i := 1) ty25 hs353 rfl rfl rfl rfl ?_)
 refine Rg_opg rfl rfl rfl (op_buildSlice (cs := [(Value.int .i64 0), (Value.int .i64 1)]) (parts := [(0, .const (.int .i64 0)), (1, .const (.int .i64 1))]) ty22 ty3 hs353 (by decide) rfl ?_)
 intro b357 w358 hx361 p359 hs360
 replace f41 := f41.step p359; replace f44 := f44.step p359; replace Fa := Fa.step p359; replace Fb := Fb.step p359; replace Fc := Fc.step p359; replace Fd := Fd.step p359; replace Fe := Fe.step p359; replace Ff := Ff.step p359; replace f198 := f198.step p359; replace f201 := f201.step p359; replace Fh := Fh.step p359; replace f235 := f235.step p359; replace f254 := f254.step p359; replace f273 := f273.step p359; replace f282 := f282.step p359; replace f301 := f301.step p359; replace f310 := f310.step p359; replace f336 := f336.step p359; replace ch227 := ch227.trans p359; clear p359 hs353
 obtain ⟨hs364, p365, f363⟩ := St.publish (i := 0) (o := 0) (c := 2) (xs := [0, 1]) hs360 rfl (show Els (rInt .i64) _ _ [(Value.int .i64 0), (Value.int .i64 1)] [0, 1] from ⟨_, _, rfl, (mk_int (show InK .i64 0 from by decide)), ⟨_, _, rfl, (mk_int (show InK .i64 1 from by decide)), Els.nil⟩⟩) (le_lit rfl) (le_lit rfl) (le_lit rfl)
 replace f41 := f41.step p365; replace f44 := f44.step p365; replace Fa := Fa.step p365; replace Fb := Fb.step p365; replace Fc := Fc.step p365; replace Fd := Fd.step p365; replace Fe := Fe.step p365; replace Ff := Ff.step p365; replace f198 := f198.step p365; replace f201 := f201.step p365; replace Fh := Fh.step p365; replace f235 := f235.step p365; replace f254 := f254.step p365; replace f273 := f273.step p365; replace f282 := f282.step p365; replace f301 := f301.step p365; replace f310 := f310.step p365; replace f336 := f336.step p365; replace ch227 := ch227.trans p365; clear p365 hs360
 replace hm := bd hm; obtain ⟨verify_2, hv366, hm⟩ := hm
 refine Rg_opg rfl rfl rfl (op_call Try.call20 (c20_clearing_Verify (r_ := (⟨3, [0, 1], [[9, 2, (-1)], [4, 8, 30]]⟩ : XRound)) (slots := [0, 1]) hs364.ltw (show InK .i64 3 from by decide) f41 f44 f363 hv366) rfl ?_)
 rintro v367 w368 ⟨hx369, h370⟩
 have hs371 := hs364.call hx369
 have p372 := Step.ext (O := ks [(some b190, Obj.cells [(Value.int .i64 2), (Value.slice (some ⟨b158, 0, none⟩) [0, 1].length 2), (Value.slice (some ⟨b182, 0, none⟩) [[1, 2], [2, 1]].length 2)].toArray 25), (some b33, Obj.cells [(Value.int .i64 3), (Value.slice (some ⟨b1, 0, none⟩) [0, 1].length 2), (Value.slice (some ⟨b25, 0, none⟩) [[9, 2, (-1)], [4, 8, 30]].length 2)].toArray 25)] O) hx369
 clear hx369
 replace f41 := f41.step p372; replace f44 := f44.step p372; replace Fa := Fa.step p372; replace Fb := Fb.step p372; replace Fc := Fc.step p372; replace Fd := Fd.step p372; replace Fe := Fe.step p372; replace Ff := Ff.step p372; replace f198 := f198.step p372; replace f201 := f201.step p372; replace Fh := Fh.step p372; replace f235 := f235.step p372; replace f254 := f254.step p372; replace f273 := f273.step p372; replace f282 := f282.step p372; replace f301 := f301.step p372; replace f310 := f310.step p372; replace f336 := f336.step p372; replace f363 := f363.step p372; replace ch227 := ch227.trans p372; clear p372 hs364
 obtain ⟨rfl, Rj⟩ := h370
 refine Rg_opg rfl rfl rfl (op_eql rfl rfl ?_)
 refine Rg_op rfl (op_pick_t (v := (Value.bool (decide (verify_2 = 380)))) rfl rfl ?_)
 refine Rg_op rfl (op_move (v := (Value.bool (decide (verify_2 = 380)))) rfl ?_)
 refine Rg_case (fun hg374 => ?_) (fun hg374 => ?_)
 replace hm := bif_t hm hg374
 refine Rg_opg rfl rfl rfl (op_loadA (cs := [(Value.int .i64 3), (Value.slice (some ⟨b1, 0, none⟩) [0, 1].length 2), (Value.slice (some ⟨b25, 0, none⟩) [[9, 2, (-1)], [4, 8, 30]].length 2)]) (vs := [(Value.int .i64 3), (Value.slice (some ⟨b1, 0, none⟩) [0, 1].length 2), (Value.slice (some ⟨b25, 0, none⟩) [[9, 2, (-1)], [4, 8, 30]].length 2)]) (i := 1) ty25 hs371 rfl rfl rfl rfl ?_)
 refine Rg_opg rfl rfl rfl (op_buildSlice (cs := [(Value.int .i64 1), (Value.int .i64 2)]) (parts := [(0, .const (.int .i64 1)), (1, .const (.int .i64 2))]) ty22 ty3 hs371 (by decide) rfl ?_)
 intro b375 w376 hx379 p377 hs378
 replace f41 := f41.step p377; replace f44 := f44.step p377; replace Fa := Fa.step p377; replace Fb := Fb.step p377; replace Fc := Fc.step p377; replace Fd := Fd.step p377; replace Fe := Fe.step p377; replace Ff := Ff.step p377; replace f198 := f198.step p377; replace f201 := f201.step p377; replace Fh := Fh.step p377; replace f235 := f235.step p377; replace f254 := f254.step p377; replace f273 := f273.step p377; replace f282 := f282.step p377; replace f301 := f301.step p377; replace f310 := f310.step p377; replace f336 := f336.step p377; replace f363 := f363.step p377; replace ch227 := ch227.trans p377; clear p377 hs371
 obtain ⟨hs382, p383, f381⟩ := St.publish (i := 0) (o := 0) (c := 2) (xs := [1, 2]) hs378 rfl (show Els (rInt .i64) _ _ [(Value.int .i64 1), (Value.int .i64 2)] [1, 2] from ⟨_, _, rfl, (mk_int (show InK .i64 1 from by decide)), ⟨_, _, rfl, (mk_int (show InK .i64 2 from by decide)), Els.nil⟩⟩) (le_lit rfl) (le_lit rfl) (le_lit rfl)
 replace f41 := f41.step p383; replace f44 := f44.step p383; replace Fa := Fa.step p383; replace Fb := Fb.step p383; replace Fc := Fc.step p383; replace Fd := Fd.step p383; replace Fe := Fe.step p383; replace Ff := Ff.step p383; replace f198 := f198.step p383; replace f201 := f201.step p383; replace Fh := Fh.step p383; replace f235 := f235.step p383; replace f254 := f254.step p383; replace f273 := f273.step p383; replace f282 := f282.step p383; replace f301 := f301.step p383; replace f310 := f310.step p383; replace f336 := f336.step p383; replace f363 := f363.step p383; replace ch227 := ch227.trans p383; clear p383 hs378
 replace hm := bd hm; obtain ⟨verify_3, hv384, hm⟩ := hm
 refine Rg_opg rfl rfl rfl (op_call Try.call20 (c20_clearing_Verify (r_ := (⟨3, [0, 1], [[9, 2, (-1)], [4, 8, 30]]⟩ : XRound)) (slots := [1, 2]) hs382.ltw (show InK .i64 3 from by decide) f41 f44 f381 hv384) rfl ?_)
 rintro v385 w386 ⟨hx387, h388⟩
 have hs389 := hs382.call hx387
 have p390 := Step.ext (O := ks [(some b190, Obj.cells [(Value.int .i64 2), (Value.slice (some ⟨b158, 0, none⟩) [0, 1].length 2), (Value.slice (some ⟨b182, 0, none⟩) [[1, 2], [2, 1]].length 2)].toArray 25), (some b33, Obj.cells [(Value.int .i64 3), (Value.slice (some ⟨b1, 0, none⟩) [0, 1].length 2), (Value.slice (some ⟨b25, 0, none⟩) [[9, 2, (-1)], [4, 8, 30]].length 2)].toArray 25)] O) hx387
 clear hx387
 replace f41 := f41.step p390; replace f44 := f44.step p390; replace Fa := Fa.step p390; replace Fb := Fb.step p390; replace Fc := Fc.step p390; replace Fd := Fd.step p390; replace Fe := Fe.step p390; replace Ff := Ff.step p390; replace f198 := f198.step p390; replace f201 := f201.step p390; replace Fh := Fh.step p390; replace f235 := f235.step p390; replace f254 := f254.step p390; replace f273 := f273.step p390; replace f282 := f282.step p390; replace f301 := f301.step p390; replace f310 := f310.step p390; replace f336 := f336.step p390; replace f363 := f363.step p390; replace f381 := f381.step p390; replace ch227 := ch227.trans p390; clear p390 hs382
 obtain ⟨rfl, Rk⟩ := h388
 refine Rg_opg rfl rfl rfl (op_eql rfl rfl ?_)
 refine Rg_op rfl (op_pick_t (v := (Value.bool (decide (verify_3 = 380)))) rfl rfl ?_)
 refine Rg_op rfl (op_assign (v := (Value.bool (decide (verify_3 = 380)))) rfl ?_)
 refine Rg_nil ?_
 exact hK221 _ _ ⟨(decide (verify_3 = 380)), _, rfl, ⟨(by repeat (first | with_reducible exact Out.refl _ _ | refine Out.upd ?_ rfl | refine Out.updL ?_ rfl | refine Out.mix' ?_ rfl | exact Out.refl _ _)), rfl, rfl, trivial⟩, ch227, hs389, hm⟩
 replace hm := bif_f hm hg374
 iterate 4 refine Rg_opx rfl (asB_ne rfl rfl) rfl ?_
 refine Rg_op rfl (op_pick_f (v := (Value.bool false)) rfl rfl ?_)
 refine Rg_op rfl (op_assign (v := (Value.bool false)) rfl ?_)
 refine Rg_nil ?_
 exact hK221 _ _ ⟨false, _, rfl, ⟨(by repeat (first | with_reducible exact Out.refl _ _ | refine Out.upd ?_ rfl | refine Out.updL ?_ rfl | refine Out.mix' ?_ rfl | exact Out.refl _ _)), rfl, rfl, trivial⟩, ch227, hs371, hm⟩
 replace hm := bif_f hm hg356
 iterate 4 refine Rg_opx rfl (asB_ne rfl rfl) rfl ?_
 refine Rg_op rfl (op_pick_f (v := (Value.bool false)) rfl rfl ?_)
 refine Rg_op rfl (op_move (v := (Value.bool false)) rfl ?_)
 iterate 4 refine Rg_opx rfl (asB_ne rfl rfl) rfl ?_
 refine Rg_op rfl (op_pick_f (v := (Value.bool false)) rfl rfl ?_)
 refine Rg_op rfl (op_assign (v := (Value.bool false)) rfl ?_)
 refine Rg_nil ?_
 exact hK221 _ _ ⟨false, _, rfl, ⟨(by repeat (first | with_reducible exact Out.refl _ _ | refine Out.upd ?_ rfl | refine Out.updL ?_ rfl | refine Out.mix' ?_ rfl | exact Out.refl _ _)), rfl, rfl, trivial⟩, ch227, hs353, hm⟩
 replace hm := bif_f hm hg347
 iterate 4 refine Rg_opx rfl (asB_ne rfl rfl) rfl ?_
 refine Rg_op rfl (op_pick_f (v := (Value.bool false)) rfl rfl ?_)
 refine Rg_op rfl (op_move (v := (Value.bool false)) rfl ?_)
 iterate 4 refine Rg_opx rfl (asB_ne rfl rfl) rfl ?_
 refine Rg_op rfl (op_pick_f (v := (Value.bool false)) rfl rfl ?_)
 refine Rg_op rfl (op_move (v := (Value.bool false)) rfl ?_)
 iterate 4 refine Rg_opx rfl (asB_ne rfl rfl) rfl ?_
 refine Rg_op rfl (op_pick_f (v := (Value.bool false)) rfl rfl ?_)
 refine Rg_op rfl (op_assign (v := (Value.bool false)) rfl ?_)
 refine Rg_nil ?_
 exact hK221 _ _ ⟨false, _, rfl, ⟨(by repeat (first | with_reducible exact Out.refl _ _ | refine Out.upd ?_ rfl | refine Out.updL ?_ rfl | refine Out.mix' ?_ rfl | exact Out.refl _ _)), rfl, rfl, trivial⟩, ch227, hs344, hm⟩
 replace hm := bif_f hm hg329
 iterate 3 refine Rg_opx rfl (asB_ne rfl rfl) rfl ?_
 refine Rg_op rfl (op_pick_f (v := (Value.bool false)) rfl rfl ?_)
 refine Rg_op rfl (op_move (v := (Value.bool false)) rfl ?_)
 iterate 4 refine Rg_opx rfl (asB_ne rfl rfl) rfl ?_
 refine Rg_op rfl (op_pick_f (v := (Value.bool false)) rfl rfl ?_)
 refine Rg_op rfl (op_move (v := (Value.bool false)) rfl ?_)
 iterate 4 refine Rg_opx rfl (asB_ne rfl rfl) rfl ?_
 refine Rg_op rfl (op_pick_f (v := (Value.bool false)) rfl rfl ?_)
 refine Rg_op rfl (op_move (v := (Value.bool false)) rfl ?_)
 iterate 4 refine Rg_opx rfl (asB_ne rfl rfl) rfl ?_
 refine Rg_op rfl (op_pick_f (v := (Value.bool false)) rfl rfl ?_)
 refine Rg_op rfl (op_assign (v := (Value.bool false)) rfl ?_)
 refine Rg_nil ?_
 exact hK221 _ _ ⟨false, _, rfl, ⟨(by repeat (first | with_reducible exact Out.refl _ _ | refine Out.upd ?_ rfl | refine Out.updL ?_ rfl | refine Out.mix' ?_ rfl | exact Out.refl _ _)), rfl, rfl, trivial⟩, ch227, hs318, hm⟩
 replace hm := bif_f hm hg328
 iterate 2 refine Rg_opx rfl (asB_ne rfl rfl) rfl ?_
 refine Rg_op rfl (op_pick_f (v := (Value.bool false)) rfl rfl ?_)
 refine Rg_op rfl (op_move (v := (Value.bool false)) rfl ?_)
 iterate 3 refine Rg_opx rfl (asB_ne rfl rfl) rfl ?_
 refine Rg_op rfl (op_pick_f (v := (Value.bool false)) rfl rfl ?_)
 refine Rg_op rfl (op_move (v := (Value.bool false)) rfl ?_)
 iterate 4 refine Rg_opx rfl (asB_ne rfl rfl) rfl ?_
 refine Rg_op rfl (op_pick_f (v := (Value.bool false)) rfl rfl ?_)
 refine Rg_op rfl (op_move (v := (Value.bool false)) rfl ?_)
 iterate 4 refine Rg_opx rfl (asB_ne rfl rfl) rfl ?_
 refine Rg_op rfl (op_pick_f (v := (Value.bool false)) rfl rfl ?_)
 refine Rg_op rfl (op_move (v := (Value.bool false)) rfl ?_)
 iterate 4 refine Rg_opx rfl (asB_ne rfl rfl) rfl ?_
 refine Rg_op rfl (op_pick_f (v := (Value.bool false)) rfl rfl ?_)
 refine Rg_op rfl (op_assign (v := (Value.bool false)) rfl ?_)
 refine Rg_nil ?_
 exact hK221 _ _ ⟨false, _, rfl, ⟨(by repeat (first | with_reducible exact Out.refl _ _ | refine Out.upd ?_ rfl | refine Out.updL ?_ rfl | refine Out.mix' ?_ rfl | exact Out.refl _ _)), rfl, rfl, trivial⟩, ch227, hs318, hm⟩
 replace hm := bif_f hm hg327
 iterate 2 refine Rg_opx rfl (asB_ne rfl rfl) rfl ?_
 refine Rg_op rfl (op_pick_f (v := (Value.bool false)) rfl rfl ?_)
 refine Rg_op rfl (op_move (v := (Value.bool false)) rfl ?_)
 iterate 2 refine Rg_opx rfl (asB_ne rfl rfl) rfl ?_
 refine Rg_op rfl (op_pick_f (v := (Value.bool false)) rfl rfl ?_)
 refine Rg_op rfl (op_move (v := (Value.bool false)) rfl ?_)
 iterate 3 refine Rg_opx rfl (asB_ne rfl rfl) rfl ?_
 refine Rg_op rfl (op_pick_f (v := (Value.bool false)) rfl rfl ?_)
 refine Rg_op rfl (op_move (v := (Value.bool false)) rfl ?_)
 iterate 4 refine Rg_opx rfl (asB_ne rfl rfl) rfl ?_
 refine Rg_op rfl (op_pick_f (v := (Value.bool false)) rfl rfl ?_)
 refine Rg_op rfl (op_move (v := (Value.bool false)) rfl ?_)
 iterate 4 refine Rg_opx rfl (asB_ne rfl rfl) rfl ?_
 refine Rg_op rfl (op_pick_f (v := (Value.bool false)) rfl rfl ?_)
 refine Rg_op rfl (op_move (v := (Value.bool false)) rfl ?_)
 iterate 4 refine Rg_opx rfl (asB_ne rfl rfl) rfl ?_
 refine Rg_op rfl (op_pick_f (v := (Value.bool false)) rfl rfl ?_)
 refine Rg_op rfl (op_assign (v := (Value.bool false)) rfl ?_)
 refine Rg_nil ?_
 exact hK221 _ _ ⟨false, _, rfl, ⟨(by repeat (first | with_reducible exact Out.refl _ _ | refine Out.upd ?_ rfl | refine Out.updL ?_ rfl | refine Out.mix' ?_ rfl | exact Out.refl _ _)), rfl, rfl, trivial⟩, ch227, hs318, hm⟩
 replace hm := bif_f hm hg325
 iterate 3 refine Rg_opx rfl (asB_ne rfl rfl) rfl ?_
 refine Rg_op rfl (op_pick_f (v := (Value.bool false)) rfl rfl ?_)
 refine Rg_op rfl (op_move (v := (Value.bool false)) rfl ?_)
 iterate 2 refine Rg_opx rfl (asB_ne rfl rfl) rfl ?_
 refine Rg_op rfl (op_pick_f (v := (Value.bool false)) rfl rfl ?_)
 refine Rg_op rfl (op_move (v := (Value.bool false)) rfl ?_)
 iterate 2 refine Rg_opx rfl (asB_ne rfl rfl) rfl ?_
 refine Rg_op rfl (op_pick_f (v := (Value.bool false)) rfl rfl ?_)
 refine Rg_op rfl (op_move (v := (Value.bool false)) rfl ?_)
 iterate 3 refine Rg_opx rfl (asB_ne rfl rfl) rfl ?_
 refine Rg_op rfl (op_pick_f (v := (Value.bool false)) rfl rfl ?_)
 refine Rg_op rfl (op_move (v := (Value.bool false)) rfl ?_)
 iterate 4 refine Rg_opx rfl (asB_ne rfl rfl) rfl ?_
 refine Rg_op rfl (op_pick_f (v := (Value.bool false)) rfl rfl ?_)
 refine Rg_op rfl (op_move (v := (Value.bool false)) rfl ?_)
 iterate 4 refine Rg_opx rfl (asB_ne rfl rfl) rfl ?_
 refine Rg_op rfl (op_pick_f (v := (Value.bool false)) rfl rfl ?_)
 refine Rg_op rfl (op_move (v := (Value.bool false)) rfl ?_)
 iterate 4 refine Rg_opx rfl (asB_ne rfl rfl) rfl ?_
 refine Rg_op rfl (op_pick_f (v := (Value.bool false)) rfl rfl ?_)
 refine Rg_op rfl (op_assign (v := (Value.bool false)) rfl ?_)
 refine Rg_nil ?_
 exact hK221 _ _ ⟨false, _, rfl, ⟨(by repeat (first | with_reducible exact Out.refl _ _ | refine Out.upd ?_ rfl | refine Out.updL ?_ rfl | refine Out.mix' ?_ rfl | exact Out.refl _ _)), rfl, rfl, trivial⟩, ch227, hs318, hm⟩
 replace hm := bif_f hm hg324
 iterate 2 refine Rg_opx rfl (asB_ne rfl rfl) rfl ?_
 refine Rg_op rfl (op_pick_f (v := (Value.bool false)) rfl rfl ?_)
 refine Rg_op rfl (op_move (v := (Value.bool false)) rfl ?_)
 iterate 3 refine Rg_opx rfl (asB_ne rfl rfl) rfl ?_
 refine Rg_op rfl (op_pick_f (v := (Value.bool false)) rfl rfl ?_)
 refine Rg_op rfl (op_move (v := (Value.bool false)) rfl ?_)
 iterate 2 refine Rg_opx rfl (asB_ne rfl rfl) rfl ?_
 refine Rg_op rfl (op_pick_f (v := (Value.bool false)) rfl rfl ?_)
 refine Rg_op rfl (op_move (v := (Value.bool false)) rfl ?_)
 iterate 2 refine Rg_opx rfl (asB_ne rfl rfl) rfl ?_
 refine Rg_op rfl (op_pick_f (v := (Value.bool false)) rfl rfl ?_)
 refine Rg_op rfl (op_move (v := (Value.bool false)) rfl ?_)
 iterate 3 refine Rg_opx rfl (asB_ne rfl rfl) rfl ?_
 refine Rg_op rfl (op_pick_f (v := (Value.bool false)) rfl rfl ?_)
 refine Rg_op rfl (op_move (v := (Value.bool false)) rfl ?_)
 iterate 4 refine Rg_opx rfl (asB_ne rfl rfl) rfl ?_
 refine Rg_op rfl (op_pick_f (v := (Value.bool false)) rfl rfl ?_)
 refine Rg_op rfl (op_move (v := (Value.bool false)) rfl ?_)
 iterate 4 refine Rg_opx rfl (asB_ne rfl rfl) rfl ?_
 refine Rg_op rfl (op_pick_f (v := (Value.bool false)) rfl rfl ?_)
 refine Rg_op rfl (op_move (v := (Value.bool false)) rfl ?_)
 iterate 4 refine Rg_opx rfl (asB_ne rfl rfl) rfl ?_
 refine Rg_op rfl (op_pick_f (v := (Value.bool false)) rfl rfl ?_)
 refine Rg_op rfl (op_assign (v := (Value.bool false)) rfl ?_)
 refine Rg_nil ?_
 exact hK221 _ _ ⟨false, _, rfl, ⟨(by repeat (first | with_reducible exact Out.refl _ _ | refine Out.upd ?_ rfl | refine Out.updL ?_ rfl | refine Out.mix' ?_ rfl | exact Out.refl _ _)), rfl, rfl, trivial⟩, ch227, hs318, hm⟩
 replace hm := bif_f hm hg322
 iterate 3 refine Rg_opx rfl (asB_ne rfl rfl) rfl ?_
 refine Rg_op rfl (op_pick_f (v := (Value.bool false)) rfl rfl ?_)
 refine Rg_op rfl (op_move (v := (Value.bool false)) rfl ?_)
 iterate 2 refine Rg_opx rfl (asB_ne rfl rfl) rfl ?_
 refine Rg_op rfl (op_pick_f (v := (Value.bool false)) rfl rfl ?_)
 refine Rg_op rfl (op_move (v := (Value.bool false)) rfl ?_)
 iterate 3 refine Rg_opx rfl (asB_ne rfl rfl) rfl ?_
 refine Rg_op rfl (op_pick_f (v := (Value.bool false)) rfl rfl ?_)
 refine Rg_op rfl (op_move (v := (Value.bool false)) rfl ?_)
 iterate 2 refine Rg_opx rfl (asB_ne rfl rfl) rfl ?_
 refine Rg_op rfl (op_pick_f (v := (Value.bool false)) rfl rfl ?_)
 refine Rg_op rfl (op_move (v := (Value.bool false)) rfl ?_)
 iterate 2 refine Rg_opx rfl (asB_ne rfl rfl) rfl ?_
 refine Rg_op rfl (op_pick_f (v := (Value.bool false)) rfl rfl ?_)
 refine Rg_op rfl (op_move (v := (Value.bool false)) rfl ?_)
 iterate 3 refine Rg_opx rfl (asB_ne rfl rfl) rfl ?_
 refine Rg_op rfl (op_pick_f (v := (Value.bool false)) rfl rfl ?_)
 refine Rg_op rfl (op_move (v := (Value.bool false)) rfl ?_)
 iterate 4 refine Rg_opx rfl (asB_ne rfl rfl) rfl ?_
 refine Rg_op rfl (op_pick_f (v := (Value.bool false)) rfl rfl ?_)
 refine Rg_op rfl (op_move (v := (Value.bool false)) rfl ?_)
 iterate 4 refine Rg_opx rfl (asB_ne rfl rfl) rfl ?_
 refine Rg_op rfl (op_pick_f (v := (Value.bool false)) rfl rfl ?_)
 refine Rg_op rfl (op_move (v := (Value.bool false)) rfl ?_)
 iterate 4 refine Rg_opx rfl (asB_ne rfl rfl) rfl ?_
 refine Rg_op rfl (op_pick_f (v := (Value.bool false)) rfl rfl ?_)
 refine Rg_op rfl (op_assign (v := (Value.bool false)) rfl ?_)
 refine Rg_nil ?_
 exact hK221 _ _ ⟨false, _, rfl, ⟨(by repeat (first | with_reducible exact Out.refl _ _ | refine Out.upd ?_ rfl | refine Out.updL ?_ rfl | refine Out.mix' ?_ rfl | exact Out.refl _ _)), rfl, rfl, trivial⟩, ch227, hs318, hm⟩
 replace hm := bif_f hm hg321
 iterate 2 refine Rg_opx rfl (asB_ne rfl rfl) rfl ?_
 refine Rg_op rfl (op_pick_f (v := (Value.bool false)) rfl rfl ?_)
 refine Rg_op rfl (op_move (v := (Value.bool false)) rfl ?_)
 iterate 3 refine Rg_opx rfl (asB_ne rfl rfl) rfl ?_
 refine Rg_op rfl (op_pick_f (v := (Value.bool false)) rfl rfl ?_)
 refine Rg_op rfl (op_move (v := (Value.bool false)) rfl ?_)
 iterate 2 refine Rg_opx rfl (asB_ne rfl rfl) rfl ?_
 refine Rg_op rfl (op_pick_f (v := (Value.bool false)) rfl rfl ?_)
 refine Rg_op rfl (op_move (v := (Value.bool false)) rfl ?_)
 iterate 3 refine Rg_opx rfl (asB_ne rfl rfl) rfl ?_
 refine Rg_op rfl (op_pick_f (v := (Value.bool false)) rfl rfl ?_)
 refine Rg_op rfl (op_move (v := (Value.bool false)) rfl ?_)
 iterate 2 refine Rg_opx rfl (asB_ne rfl rfl) rfl ?_
 refine Rg_op rfl (op_pick_f (v := (Value.bool false)) rfl rfl ?_)
 refine Rg_op rfl (op_move (v := (Value.bool false)) rfl ?_)
 iterate 2 refine Rg_opx rfl (asB_ne rfl rfl) rfl ?_
 refine Rg_op rfl (op_pick_f (v := (Value.bool false)) rfl rfl ?_)
 refine Rg_op rfl (op_move (v := (Value.bool false)) rfl ?_)
 iterate 3 refine Rg_opx rfl (asB_ne rfl rfl) rfl ?_
 refine Rg_op rfl (op_pick_f (v := (Value.bool false)) rfl rfl ?_)
 refine Rg_op rfl (op_move (v := (Value.bool false)) rfl ?_)
 iterate 4 refine Rg_opx rfl (asB_ne rfl rfl) rfl ?_
 refine Rg_op rfl (op_pick_f (v := (Value.bool false)) rfl rfl ?_)
 refine Rg_op rfl (op_move (v := (Value.bool false)) rfl ?_)
 iterate 4 refine Rg_opx rfl (asB_ne rfl rfl) rfl ?_
 refine Rg_op rfl (op_pick_f (v := (Value.bool false)) rfl rfl ?_)
 refine Rg_op rfl (op_move (v := (Value.bool false)) rfl ?_)
 iterate 4 refine Rg_opx rfl (asB_ne rfl rfl) rfl ?_
 refine Rg_op rfl (op_pick_f (v := (Value.bool false)) rfl rfl ?_)
 refine Rg_op rfl (op_assign (v := (Value.bool false)) rfl ?_)
 refine Rg_nil ?_
 exact hK221 _ _ ⟨false, _, rfl, ⟨(by repeat (first | with_reducible exact Out.refl _ _ | refine Out.upd ?_ rfl | refine Out.updL ?_ rfl | refine Out.mix' ?_ rfl | exact Out.refl _ _)), rfl, rfl, trivial⟩, ch227, hs318, hm⟩
 replace hm := bif_f hm hg294
 iterate 4 refine Rg_opx rfl (asB_ne rfl rfl) rfl ?_
 refine Rg_op rfl (op_pick_f (v := (Value.bool false)) rfl rfl ?_)
 refine Rg_op rfl (op_move (v := (Value.bool false)) rfl ?_)
 iterate 2 refine Rg_opx rfl (asB_ne rfl rfl) rfl ?_
 refine Rg_op rfl (op_pick_f (v := (Value.bool false)) rfl rfl ?_)
 refine Rg_op rfl (op_move (v := (Value.bool false)) rfl ?_)
 iterate 3 refine Rg_opx rfl (asB_ne rfl rfl) rfl ?_
 refine Rg_op rfl (op_pick_f (v := (Value.bool false)) rfl rfl ?_)
 refine Rg_op rfl (op_move (v := (Value.bool false)) rfl ?_)
 iterate 2 refine Rg_opx rfl (asB_ne rfl rfl) rfl ?_
 refine Rg_op rfl (op_pick_f (v := (Value.bool false)) rfl rfl ?_)
 refine Rg_op rfl (op_move (v := (Value.bool false)) rfl ?_)
 iterate 3 refine Rg_opx rfl (asB_ne rfl rfl) rfl ?_
 refine Rg_op rfl (op_pick_f (v := (Value.bool false)) rfl rfl ?_)
 refine Rg_op rfl (op_move (v := (Value.bool false)) rfl ?_)
 iterate 2 refine Rg_opx rfl (asB_ne rfl rfl) rfl ?_
 refine Rg_op rfl (op_pick_f (v := (Value.bool false)) rfl rfl ?_)
 refine Rg_op rfl (op_move (v := (Value.bool false)) rfl ?_)
 iterate 2 refine Rg_opx rfl (asB_ne rfl rfl) rfl ?_
 refine Rg_op rfl (op_pick_f (v := (Value.bool false)) rfl rfl ?_)
 refine Rg_op rfl (op_move (v := (Value.bool false)) rfl ?_)
 iterate 3 refine Rg_opx rfl (asB_ne rfl rfl) rfl ?_
 refine Rg_op rfl (op_pick_f (v := (Value.bool false)) rfl rfl ?_)
 refine Rg_op rfl (op_move (v := (Value.bool false)) rfl ?_)
 iterate 4 refine Rg_opx rfl (asB_ne rfl rfl) rfl ?_
 refine Rg_op rfl (op_pick_f (v := (Value.bool false)) rfl rfl ?_)
 refine Rg_op rfl (op_move (v := (Value.bool false)) rfl ?_)
 iterate 4 refine Rg_opx rfl (asB_ne rfl rfl) rfl ?_
 refine Rg_op rfl (op_pick_f (v := (Value.bool false)) rfl rfl ?_)
 refine Rg_op rfl (op_move (v := (Value.bool false)) rfl ?_)
 iterate 4 refine Rg_opx rfl (asB_ne rfl rfl) rfl ?_
 refine Rg_op rfl (op_pick_f (v := (Value.bool false)) rfl rfl ?_)
 refine Rg_op rfl (op_assign (v := (Value.bool false)) rfl ?_)
 refine Rg_nil ?_
 exact hK221 _ _ ⟨false, _, rfl, ⟨(by repeat (first | with_reducible exact Out.refl _ _ | refine Out.upd ?_ rfl | refine Out.updL ?_ rfl | refine Out.mix' ?_ rfl | exact Out.refl _ _)), rfl, rfl, trivial⟩, ch227, hs290, hm⟩
 replace hm := bif_f hm hg293
 iterate 2 refine Rg_opx rfl (asB_ne rfl rfl) rfl ?_
 refine Rg_op rfl (op_pick_f (v := (Value.bool false)) rfl rfl ?_)
 refine Rg_op rfl (op_move (v := (Value.bool false)) rfl ?_)
 iterate 4 refine Rg_opx rfl (asB_ne rfl rfl) rfl ?_
 refine Rg_op rfl (op_pick_f (v := (Value.bool false)) rfl rfl ?_)
 refine Rg_op rfl (op_move (v := (Value.bool false)) rfl ?_)
 iterate 2 refine Rg_opx rfl (asB_ne rfl rfl) rfl ?_
 refine Rg_op rfl (op_pick_f (v := (Value.bool false)) rfl rfl ?_)
 refine Rg_op rfl (op_move (v := (Value.bool false)) rfl ?_)
 iterate 3 refine Rg_opx rfl (asB_ne rfl rfl) rfl ?_
 refine Rg_op rfl (op_pick_f (v := (Value.bool false)) rfl rfl ?_)
 refine Rg_op rfl (op_move (v := (Value.bool false)) rfl ?_)
 iterate 2 refine Rg_opx rfl (asB_ne rfl rfl) rfl ?_
 refine Rg_op rfl (op_pick_f (v := (Value.bool false)) rfl rfl ?_)
 refine Rg_op rfl (op_move (v := (Value.bool false)) rfl ?_)
 iterate 3 refine Rg_opx rfl (asB_ne rfl rfl) rfl ?_
 refine Rg_op rfl (op_pick_f (v := (Value.bool false)) rfl rfl ?_)
 refine Rg_op rfl (op_move (v := (Value.bool false)) rfl ?_)
 iterate 2 refine Rg_opx rfl (asB_ne rfl rfl) rfl ?_
 refine Rg_op rfl (op_pick_f (v := (Value.bool false)) rfl rfl ?_)
 refine Rg_op rfl (op_move (v := (Value.bool false)) rfl ?_)
 iterate 2 refine Rg_opx rfl (asB_ne rfl rfl) rfl ?_
 refine Rg_op rfl (op_pick_f (v := (Value.bool false)) rfl rfl ?_)
 refine Rg_op rfl (op_move (v := (Value.bool false)) rfl ?_)
 iterate 3 refine Rg_opx rfl (asB_ne rfl rfl) rfl ?_
 refine Rg_op rfl (op_pick_f (v := (Value.bool false)) rfl rfl ?_)
 refine Rg_op rfl (op_move (v := (Value.bool false)) rfl ?_)
 iterate 4 refine Rg_opx rfl (asB_ne rfl rfl) rfl ?_
 refine Rg_op rfl (op_pick_f (v := (Value.bool false)) rfl rfl ?_)
 refine Rg_op rfl (op_move (v := (Value.bool false)) rfl ?_)
 iterate 4 refine Rg_opx rfl (asB_ne rfl rfl) rfl ?_
 refine Rg_op rfl (op_pick_f (v := (Value.bool false)) rfl rfl ?_)
 refine Rg_op rfl (op_move (v := (Value.bool false)) rfl ?_)
 iterate 4 refine Rg_opx rfl (asB_ne rfl rfl) rfl ?_
 refine Rg_op rfl (op_pick_f (v := (Value.bool false)) rfl rfl ?_)
 refine Rg_op rfl (op_assign (v := (Value.bool false)) rfl ?_)
 refine Rg_nil ?_
 exact hK221 _ _ ⟨false, _, rfl, ⟨(by repeat (first | with_reducible exact Out.refl _ _ | refine Out.upd ?_ rfl | refine Out.updL ?_ rfl | refine Out.mix' ?_ rfl | exact Out.refl _ _)), rfl, rfl, trivial⟩, ch227, hs290, hm⟩
 replace hm := bif_f hm hg266
 iterate 4 refine Rg_opx rfl (asB_ne rfl rfl) rfl ?_
 refine Rg_op rfl (op_pick_f (v := (Value.bool false)) rfl rfl ?_)
 refine Rg_op rfl (op_move (v := (Value.bool false)) rfl ?_)
 iterate 2 refine Rg_opx rfl (asB_ne rfl rfl) rfl ?_
 refine Rg_op rfl (op_pick_f (v := (Value.bool false)) rfl rfl ?_)
 refine Rg_op rfl (op_move (v := (Value.bool false)) rfl ?_)
 iterate 4 refine Rg_opx rfl (asB_ne rfl rfl) rfl ?_
 refine Rg_op rfl (op_pick_f (v := (Value.bool false)) rfl rfl ?_)
 refine Rg_op rfl (op_move (v := (Value.bool false)) rfl ?_)
 iterate 2 refine Rg_opx rfl (asB_ne rfl rfl) rfl ?_
 refine Rg_op rfl (op_pick_f (v := (Value.bool false)) rfl rfl ?_)
 refine Rg_op rfl (op_move (v := (Value.bool false)) rfl ?_)
 iterate 3 refine Rg_opx rfl (asB_ne rfl rfl) rfl ?_
 refine Rg_op rfl (op_pick_f (v := (Value.bool false)) rfl rfl ?_)
 refine Rg_op rfl (op_move (v := (Value.bool false)) rfl ?_)
 iterate 2 refine Rg_opx rfl (asB_ne rfl rfl) rfl ?_
 refine Rg_op rfl (op_pick_f (v := (Value.bool false)) rfl rfl ?_)
 refine Rg_op rfl (op_move (v := (Value.bool false)) rfl ?_)
 iterate 3 refine Rg_opx rfl (asB_ne rfl rfl) rfl ?_
 refine Rg_op rfl (op_pick_f (v := (Value.bool false)) rfl rfl ?_)
 refine Rg_op rfl (op_move (v := (Value.bool false)) rfl ?_)
 iterate 2 refine Rg_opx rfl (asB_ne rfl rfl) rfl ?_
 refine Rg_op rfl (op_pick_f (v := (Value.bool false)) rfl rfl ?_)
 refine Rg_op rfl (op_move (v := (Value.bool false)) rfl ?_)
 iterate 2 refine Rg_opx rfl (asB_ne rfl rfl) rfl ?_
 refine Rg_op rfl (op_pick_f (v := (Value.bool false)) rfl rfl ?_)
 refine Rg_op rfl (op_move (v := (Value.bool false)) rfl ?_)
 iterate 3 refine Rg_opx rfl (asB_ne rfl rfl) rfl ?_
 refine Rg_op rfl (op_pick_f (v := (Value.bool false)) rfl rfl ?_)
 refine Rg_op rfl (op_move (v := (Value.bool false)) rfl ?_)
 iterate 4 refine Rg_opx rfl (asB_ne rfl rfl) rfl ?_
 refine Rg_op rfl (op_pick_f (v := (Value.bool false)) rfl rfl ?_)
 refine Rg_op rfl (op_move (v := (Value.bool false)) rfl ?_)
 iterate 4 refine Rg_opx rfl (asB_ne rfl rfl) rfl ?_
 refine Rg_op rfl (op_pick_f (v := (Value.bool false)) rfl rfl ?_)
 refine Rg_op rfl (op_move (v := (Value.bool false)) rfl ?_)
 iterate 4 refine Rg_opx rfl (asB_ne rfl rfl) rfl ?_
 refine Rg_op rfl (op_pick_f (v := (Value.bool false)) rfl rfl ?_)
 refine Rg_op rfl (op_assign (v := (Value.bool false)) rfl ?_)
 refine Rg_nil ?_
 exact hK221 _ _ ⟨false, _, rfl, ⟨(by repeat (first | with_reducible exact Out.refl _ _ | refine Out.upd ?_ rfl | refine Out.updL ?_ rfl | refine Out.mix' ?_ rfl | exact Out.refl _ _)), rfl, rfl, trivial⟩, ch227, hs262, hm⟩
 replace hm := bif_f hm hg265
 iterate 2 refine Rg_opx rfl (asB_ne rfl rfl) rfl ?_
 refine Rg_op rfl (op_pick_f (v := (Value.bool false)) rfl rfl ?_)
 refine Rg_op rfl (op_move (v := (Value.bool false)) rfl ?_)
 iterate 4 refine Rg_opx rfl (asB_ne rfl rfl) rfl ?_
 refine Rg_op rfl (op_pick_f (v := (Value.bool false)) rfl rfl ?_)
 refine Rg_op rfl (op_move (v := (Value.bool false)) rfl ?_)
 iterate 2 refine Rg_opx rfl (asB_ne rfl rfl) rfl ?_
 refine Rg_op rfl (op_pick_f (v := (Value.bool false)) rfl rfl ?_)
 refine Rg_op rfl (op_move (v := (Value.bool false)) rfl ?_)
 iterate 4 refine Rg_opx rfl (asB_ne rfl rfl) rfl ?_
 refine Rg_op rfl (op_pick_f (v := (Value.bool false)) rfl rfl ?_)
 refine Rg_op rfl (op_move (v := (Value.bool false)) rfl ?_)
 iterate 2 refine Rg_opx rfl (asB_ne rfl rfl) rfl ?_
 refine Rg_op rfl (op_pick_f (v := (Value.bool false)) rfl rfl ?_)
 refine Rg_op rfl (op_move (v := (Value.bool false)) rfl ?_)
 iterate 3 refine Rg_opx rfl (asB_ne rfl rfl) rfl ?_
 refine Rg_op rfl (op_pick_f (v := (Value.bool false)) rfl rfl ?_)
 refine Rg_op rfl (op_move (v := (Value.bool false)) rfl ?_)
 iterate 2 refine Rg_opx rfl (asB_ne rfl rfl) rfl ?_
 refine Rg_op rfl (op_pick_f (v := (Value.bool false)) rfl rfl ?_)
 refine Rg_op rfl (op_move (v := (Value.bool false)) rfl ?_)
 iterate 3 refine Rg_opx rfl (asB_ne rfl rfl) rfl ?_
 refine Rg_op rfl (op_pick_f (v := (Value.bool false)) rfl rfl ?_)
 refine Rg_op rfl (op_move (v := (Value.bool false)) rfl ?_)
 iterate 2 refine Rg_opx rfl (asB_ne rfl rfl) rfl ?_
 refine Rg_op rfl (op_pick_f (v := (Value.bool false)) rfl rfl ?_)
 refine Rg_op rfl (op_move (v := (Value.bool false)) rfl ?_)
 iterate 2 refine Rg_opx rfl (asB_ne rfl rfl) rfl ?_
 refine Rg_op rfl (op_pick_f (v := (Value.bool false)) rfl rfl ?_)
 refine Rg_op rfl (op_move (v := (Value.bool false)) rfl ?_)
 iterate 3 refine Rg_opx rfl (asB_ne rfl rfl) rfl ?_
 refine Rg_op rfl (op_pick_f (v := (Value.bool false)) rfl rfl ?_)
 refine Rg_op rfl (op_move (v := (Value.bool false)) rfl ?_)
 iterate 4 refine Rg_opx rfl (asB_ne rfl rfl) rfl ?_
 refine Rg_op rfl (op_pick_f (v := (Value.bool false)) rfl rfl ?_)
 refine Rg_op rfl (op_move (v := (Value.bool false)) rfl ?_)
 iterate 4 refine Rg_opx rfl (asB_ne rfl rfl) rfl ?_
 refine Rg_op rfl (op_pick_f (v := (Value.bool false)) rfl rfl ?_)
 refine Rg_op rfl (op_move (v := (Value.bool false)) rfl ?_)
 iterate 4 refine Rg_opx rfl (asB_ne rfl rfl) rfl ?_
 refine Rg_op rfl (op_pick_f (v := (Value.bool false)) rfl rfl ?_)
 refine Rg_op rfl (op_assign (v := (Value.bool false)) rfl ?_)
 refine Rg_nil ?_
 exact hK221 _ _ ⟨false, _, rfl, ⟨(by repeat (first | with_reducible exact Out.refl _ _ | refine Out.upd ?_ rfl | refine Out.updL ?_ rfl | refine Out.mix' ?_ rfl | exact Out.refl _ _)), rfl, rfl, trivial⟩, ch227, hs262, hm⟩
 replace hm := bif_f hm hg247
 iterate 3 refine Rg_opx rfl (asB_ne rfl rfl) rfl ?_
 refine Rg_op rfl (op_pick_f (v := (Value.bool false)) rfl rfl ?_)
 refine Rg_op rfl (op_move (v := (Value.bool false)) rfl ?_)
 iterate 2 refine Rg_opx rfl (asB_ne rfl rfl) rfl ?_
 refine Rg_op rfl (op_pick_f (v := (Value.bool false)) rfl rfl ?_)
 refine Rg_op rfl (op_move (v := (Value.bool false)) rfl ?_)
 iterate 4 refine Rg_opx rfl (asB_ne rfl rfl) rfl ?_
 refine Rg_op rfl (op_pick_f (v := (Value.bool false)) rfl rfl ?_)
 refine Rg_op rfl (op_move (v := (Value.bool false)) rfl ?_)
 iterate 2 refine Rg_opx rfl (asB_ne rfl rfl) rfl ?_
 refine Rg_op rfl (op_pick_f (v := (Value.bool false)) rfl rfl ?_)
 refine Rg_op rfl (op_move (v := (Value.bool false)) rfl ?_)
 iterate 4 refine Rg_opx rfl (asB_ne rfl rfl) rfl ?_
 refine Rg_op rfl (op_pick_f (v := (Value.bool false)) rfl rfl ?_)
 refine Rg_op rfl (op_move (v := (Value.bool false)) rfl ?_)
 iterate 2 refine Rg_opx rfl (asB_ne rfl rfl) rfl ?_
 refine Rg_op rfl (op_pick_f (v := (Value.bool false)) rfl rfl ?_)
 refine Rg_op rfl (op_move (v := (Value.bool false)) rfl ?_)
 iterate 3 refine Rg_opx rfl (asB_ne rfl rfl) rfl ?_
 refine Rg_op rfl (op_pick_f (v := (Value.bool false)) rfl rfl ?_)
 refine Rg_op rfl (op_move (v := (Value.bool false)) rfl ?_)
 iterate 2 refine Rg_opx rfl (asB_ne rfl rfl) rfl ?_
 refine Rg_op rfl (op_pick_f (v := (Value.bool false)) rfl rfl ?_)
 refine Rg_op rfl (op_move (v := (Value.bool false)) rfl ?_)
 iterate 3 refine Rg_opx rfl (asB_ne rfl rfl) rfl ?_
 refine Rg_op rfl (op_pick_f (v := (Value.bool false)) rfl rfl ?_)
 refine Rg_op rfl (op_move (v := (Value.bool false)) rfl ?_)
 iterate 2 refine Rg_opx rfl (asB_ne rfl rfl) rfl ?_
 refine Rg_op rfl (op_pick_f (v := (Value.bool false)) rfl rfl ?_)
 refine Rg_op rfl (op_move (v := (Value.bool false)) rfl ?_)
 iterate 2 refine Rg_opx rfl (asB_ne rfl rfl) rfl ?_
 refine Rg_op rfl (op_pick_f (v := (Value.bool false)) rfl rfl ?_)
 refine Rg_op rfl (op_move (v := (Value.bool false)) rfl ?_)
 iterate 3 refine Rg_opx rfl (asB_ne rfl rfl) rfl ?_
 refine Rg_op rfl (op_pick_f (v := (Value.bool false)) rfl rfl ?_)
 refine Rg_op rfl (op_move (v := (Value.bool false)) rfl ?_)
 iterate 4 refine Rg_opx rfl (asB_ne rfl rfl) rfl ?_
 refine Rg_op rfl (op_pick_f (v := (Value.bool false)) rfl rfl ?_)
 refine Rg_op rfl (op_move (v := (Value.bool false)) rfl ?_)
 iterate 4 refine Rg_opx rfl (asB_ne rfl rfl) rfl ?_
 refine Rg_op rfl (op_pick_f (v := (Value.bool false)) rfl rfl ?_)
 refine Rg_op rfl (op_move (v := (Value.bool false)) rfl ?_)
 iterate 4 refine Rg_opx rfl (asB_ne rfl rfl) rfl ?_
 refine Rg_op rfl (op_pick_f (v := (Value.bool false)) rfl rfl ?_)
 refine Rg_op rfl (op_assign (v := (Value.bool false)) rfl ?_)
 refine Rg_nil ?_
 exact hK221 _ _ ⟨false, _, rfl, ⟨(by repeat (first | with_reducible exact Out.refl _ _ | refine Out.upd ?_ rfl | refine Out.updL ?_ rfl | refine Out.mix' ?_ rfl | exact Out.refl _ _)), rfl, rfl, trivial⟩, ch227, hs243, hm⟩
 replace hm := bif_f hm hg246
 iterate 2 refine Rg_opx rfl (asB_ne rfl rfl) rfl ?_
 refine Rg_op rfl (op_pick_f (v := (Value.bool false)) rfl rfl ?_)
 refine Rg_op rfl (op_move (v := (Value.bool false)) rfl ?_)
 iterate 3 refine Rg_opx rfl (asB_ne rfl rfl) rfl ?_
 refine Rg_op rfl (op_pick_f (v := (Value.bool false)) rfl rfl ?_)
 refine Rg_op rfl (op_move (v := (Value.bool false)) rfl ?_)
 iterate 2 refine Rg_opx rfl (asB_ne rfl rfl) rfl ?_
 refine Rg_op rfl (op_pick_f (v := (Value.bool false)) rfl rfl ?_)
 refine Rg_op rfl (op_move (v := (Value.bool false)) rfl ?_)
 iterate 4 refine Rg_opx rfl (asB_ne rfl rfl) rfl ?_
 refine Rg_op rfl (op_pick_f (v := (Value.bool false)) rfl rfl ?_)
 refine Rg_op rfl (op_move (v := (Value.bool false)) rfl ?_)
 iterate 2 refine Rg_opx rfl (asB_ne rfl rfl) rfl ?_
 refine Rg_op rfl (op_pick_f (v := (Value.bool false)) rfl rfl ?_)
 refine Rg_op rfl (op_move (v := (Value.bool false)) rfl ?_)
 iterate 4 refine Rg_opx rfl (asB_ne rfl rfl) rfl ?_
 refine Rg_op rfl (op_pick_f (v := (Value.bool false)) rfl rfl ?_)
 refine Rg_op rfl (op_move (v := (Value.bool false)) rfl ?_)
 iterate 2 refine Rg_opx rfl (asB_ne rfl rfl) rfl ?_
 refine Rg_op rfl (op_pick_f (v := (Value.bool false)) rfl rfl ?_)
 refine Rg_op rfl (op_move (v := (Value.bool false)) rfl ?_)
 iterate 3 refine Rg_opx rfl (asB_ne rfl rfl) rfl ?_
 refine Rg_op rfl (op_pick_f (v := (Value.bool false)) rfl rfl ?_)
 refine Rg_op rfl (op_move (v := (Value.bool false)) rfl ?_)
 iterate 2 refine Rg_opx rfl (asB_ne rfl rfl) rfl ?_
 refine Rg_op rfl (op_pick_f (v := (Value.bool false)) rfl rfl ?_)
 refine Rg_op rfl (op_move (v := (Value.bool false)) rfl ?_)
 iterate 3 refine Rg_opx rfl (asB_ne rfl rfl) rfl ?_
 refine Rg_op rfl (op_pick_f (v := (Value.bool false)) rfl rfl ?_)
 refine Rg_op rfl (op_move (v := (Value.bool false)) rfl ?_)
 iterate 2 refine Rg_opx rfl (asB_ne rfl rfl) rfl ?_
 refine Rg_op rfl (op_pick_f (v := (Value.bool false)) rfl rfl ?_)
 refine Rg_op rfl (op_move (v := (Value.bool false)) rfl ?_)
 iterate 2 refine Rg_opx rfl (asB_ne rfl rfl) rfl ?_
 refine Rg_op rfl (op_pick_f (v := (Value.bool false)) rfl rfl ?_)
 refine Rg_op rfl (op_move (v := (Value.bool false)) rfl ?_)
 iterate 3 refine Rg_opx rfl (asB_ne rfl rfl) rfl ?_
 refine Rg_op rfl (op_pick_f (v := (Value.bool false)) rfl rfl ?_)
 refine Rg_op rfl (op_move (v := (Value.bool false)) rfl ?_)
 iterate 4 refine Rg_opx rfl (asB_ne rfl rfl) rfl ?_
 refine Rg_op rfl (op_pick_f (v := (Value.bool false)) rfl rfl ?_)
 refine Rg_op rfl (op_move (v := (Value.bool false)) rfl ?_)
 iterate 4 refine Rg_opx rfl (asB_ne rfl rfl) rfl ?_
 refine Rg_op rfl (op_pick_f (v := (Value.bool false)) rfl rfl ?_)
 refine Rg_op rfl (op_move (v := (Value.bool false)) rfl ?_)
 iterate 4 refine Rg_opx rfl (asB_ne rfl rfl) rfl ?_
 refine Rg_op rfl (op_pick_f (v := (Value.bool false)) rfl rfl ?_)
 refine Rg_op rfl (op_assign (v := (Value.bool false)) rfl ?_)
 refine Rg_nil ?_
 exact hK221 _ _ ⟨false, _, rfl, ⟨(by repeat (first | with_reducible exact Out.refl _ _ | refine Out.upd ?_ rfl | refine Out.updL ?_ rfl | refine Out.mix' ?_ rfl | exact Out.refl _ _)), rfl, rfl, trivial⟩, ch227, hs243, hm⟩
 replace hm := bif_f hm hg228
 iterate 3 refine Rg_opx rfl (asB_ne rfl rfl) rfl ?_
 refine Rg_op rfl (op_pick_f (v := (Value.bool false)) rfl rfl ?_)
 refine Rg_op rfl (op_move (v := (Value.bool false)) rfl ?_)
 iterate 2 refine Rg_opx rfl (asB_ne rfl rfl) rfl ?_
 refine Rg_op rfl (op_pick_f (v := (Value.bool false)) rfl rfl ?_)
 refine Rg_op rfl (op_move (v := (Value.bool false)) rfl ?_)
 iterate 3 refine Rg_opx rfl (asB_ne rfl rfl) rfl ?_
 refine Rg_op rfl (op_pick_f (v := (Value.bool false)) rfl rfl ?_)
 refine Rg_op rfl (op_move (v := (Value.bool false)) rfl ?_)
 iterate 2 refine Rg_opx rfl (asB_ne rfl rfl) rfl ?_
 refine Rg_op rfl (op_pick_f (v := (Value.bool false)) rfl rfl ?_)
 refine Rg_op rfl (op_move (v := (Value.bool false)) rfl ?_)
 iterate 4 refine Rg_opx rfl (asB_ne rfl rfl) rfl ?_
 refine Rg_op rfl (op_pick_f (v := (Value.bool false)) rfl rfl ?_)
 refine Rg_op rfl (op_move (v := (Value.bool false)) rfl ?_)
 iterate 2 refine Rg_opx rfl (asB_ne rfl rfl) rfl ?_
 refine Rg_op rfl (op_pick_f (v := (Value.bool false)) rfl rfl ?_)
 refine Rg_op rfl (op_move (v := (Value.bool false)) rfl ?_)
 iterate 4 refine Rg_opx rfl (asB_ne rfl rfl) rfl ?_
 refine Rg_op rfl (op_pick_f (v := (Value.bool false)) rfl rfl ?_)
 refine Rg_op rfl (op_move (v := (Value.bool false)) rfl ?_)
 iterate 2 refine Rg_opx rfl (asB_ne rfl rfl) rfl ?_
 refine Rg_op rfl (op_pick_f (v := (Value.bool false)) rfl rfl ?_)
 refine Rg_op rfl (op_move (v := (Value.bool false)) rfl ?_)
 iterate 3 refine Rg_opx rfl (asB_ne rfl rfl) rfl ?_
 refine Rg_op rfl (op_pick_f (v := (Value.bool false)) rfl rfl ?_)
 refine Rg_op rfl (op_move (v := (Value.bool false)) rfl ?_)
 iterate 2 refine Rg_opx rfl (asB_ne rfl rfl) rfl ?_
 refine Rg_op rfl (op_pick_f (v := (Value.bool false)) rfl rfl ?_)
 refine Rg_op rfl (op_move (v := (Value.bool false)) rfl ?_)
 iterate 3 refine Rg_opx rfl (asB_ne rfl rfl) rfl ?_
 refine Rg_op rfl (op_pick_f (v := (Value.bool false)) rfl rfl ?_)
 refine Rg_op rfl (op_move (v := (Value.bool false)) rfl ?_)
 iterate 2 refine Rg_opx rfl (asB_ne rfl rfl) rfl ?_
 refine Rg_op rfl (op_pick_f (v := (Value.bool false)) rfl rfl ?_)
 refine Rg_op rfl (op_move (v := (Value.bool false)) rfl ?_)
 iterate 2 refine Rg_opx rfl (asB_ne rfl rfl) rfl ?_
 refine Rg_op rfl (op_pick_f (v := (Value.bool false)) rfl rfl ?_)
 refine Rg_op rfl (op_move (v := (Value.bool false)) rfl ?_)
 iterate 3 refine Rg_opx rfl (asB_ne rfl rfl) rfl ?_
 refine Rg_op rfl (op_pick_f (v := (Value.bool false)) rfl rfl ?_)
 refine Rg_op rfl (op_move (v := (Value.bool false)) rfl ?_)
 iterate 4 refine Rg_opx rfl (asB_ne rfl rfl) rfl ?_
 refine Rg_op rfl (op_pick_f (v := (Value.bool false)) rfl rfl ?_)
 refine Rg_op rfl (op_move (v := (Value.bool false)) rfl ?_)
 iterate 4 refine Rg_opx rfl (asB_ne rfl rfl) rfl ?_
 refine Rg_op rfl (op_pick_f (v := (Value.bool false)) rfl rfl ?_)
 refine Rg_op rfl (op_move (v := (Value.bool false)) rfl ?_)
 iterate 4 refine Rg_opx rfl (asB_ne rfl rfl) rfl ?_
 refine Rg_op rfl (op_pick_f (v := (Value.bool false)) rfl rfl ?_)
 refine Rg_op rfl (op_assign (v := (Value.bool false)) rfl ?_)
 refine Rg_nil ?_
 exact hK221 _ _ ⟨false, _, rfl, ⟨(by repeat (first | with_reducible exact Out.refl _ _ | refine Out.upd ?_ rfl | refine Out.updL ?_ rfl | refine Out.mix' ?_ rfl | exact Out.refl _ _)), rfl, rfl, trivial⟩, ch227, hs209, hm⟩

def m54_overflightref37_Valid_B1 (r_ : XRound) (i_1 : Int) (sf21 : Int → Option Bool) (sf46 : Int → Option Bool) (k_1 : Int) : Option Bool :=
 bif (decide (k_1 < r_.slots)) then
  jn (fun (v_3 : Bool) =>
   bif v_3 then
    some false
   else
    sf46 (IntKind.wrap .i64 (k_1 + 1)))
  (fun k59 =>
   ck ((0 : Int) ≤ i_1 ∧ i_1 < (r_.costs.length : Int)) <|
   ck ((0 : Int) ≤ k_1 ∧ k_1 < ((r_.costs.getD i_1.toNat default).length : Int)) <|
   bif (decide (((r_.costs.getD i_1.toNat default).getD k_1.toNat default) < (-1))) then
    k59 true
   else
    ck ((0 : Int) ≤ i_1 ∧ i_1 < (r_.costs.length : Int)) <|
    ck ((0 : Int) ≤ k_1 ∧ k_1 < ((r_.costs.getD i_1.toNat default).length : Int)) <|
    bif (decide (1048576 < ((r_.costs.getD i_1.toNat default).getD k_1.toNat default))) then
     k59 true
    else
     bif (decide (k_1 = i_1)) then
      ck ((0 : Int) ≤ i_1 ∧ i_1 < (r_.costs.length : Int)) <|
      ck ((0 : Int) ≤ k_1 ∧ k_1 < ((r_.costs.getD i_1.toNat default).length : Int)) <|
      k59 (decide (((r_.costs.getD i_1.toNat default).getD k_1.toNat default) < 0))
     else
      k59 false)
 else
  sf21 (IntKind.wrap .i64 (i_1 + 1))

def m54_overflightref37_Valid_B0 (r_ : XRound) (sf21 : Int → Option Bool) (i_1 : Int) : Option Bool :=
 bif (decide (i_1 < (r_.owners.length : Int))) then
  jn (fun (v_2 : Bool) =>
   bif v_2 then
    some false
   else
    loop1 (m54_overflightref37_Valid_B1 r_ i_1 sf21) ((r_.slots - 0).toNat + 1) 0)
  (fun k35 =>
   ck ((0 : Int) ≤ i_1 ∧ i_1 < (r_.owners.length : Int)) <|
   bif (decide ((r_.owners.getD i_1.toNat default) < 0)) then
    k35 true
   else
    ck ((0 : Int) ≤ i_1 ∧ i_1 < (r_.owners.length : Int)) <|
    bif (decide (8 ≤ (r_.owners.getD i_1.toNat default))) then
     k35 true
    else
     ck ((0 : Int) ≤ i_1 ∧ i_1 < (r_.costs.length : Int)) <|
     k35 (decide (((r_.costs.getD i_1.toNat default).length : Int) ≠ r_.slots)))
 else
  some true

def m54_overflightref37_Valid (r_ : XRound) : Option Bool :=
 jn (fun (v_1 : Bool) =>
  bif v_1 then
   some false
  else
   loop1 (m54_overflightref37_Valid_B0 r_) (((r_.owners.length : Int) - 0).toNat + 1) 0)
 (fun k8 =>
  bif (decide (r_.slots < 1)) then
   k8 true
  else
   bif (decide (8 < r_.slots)) then
    k8 true
   else
    bif (decide (r_.slots < (r_.owners.length : Int))) then
     k8 true
    else
     k8 (decide ((r_.costs.length : Int) ≠ (r_.owners.length : Int))))

theorem c54_overflightref37_Valid {w : World} {O : List Nat} {r_ : XRound} {Aa : Option Addr} {Ca : Nat} {Ab : Option Addr} {Cb : Nat} (hO : ∀ k ∈ O, k < w.heap.size) (Ra : InK .i64 r_.slots) (Fa : SlR (rInt .i64) w O Aa Ca r_.owners) (Fb : SlR (rSl (rInt .i64)) w O Ab Cb r_.costs) {x : Bool} (hm : m54_overflightref37_Valid r_ = some x) :
 Ok Try.prog 54 [(Value.agg [(Value.int .i64 r_.slots), (Value.slice Aa r_.owners.length Ca), (Value.slice Ab r_.costs.length Cb)].toArray)] w O vB x := by
 unfold m54_overflightref37_Valid at hm
 refine Fn_of_Wp (n := 104) (xs := [.tmp 2]) Try.func54 rfl Try.ntmps54 Try.results54 rfl ?_
 have hs := St.start hO
 refine Wp_seq (Wp_region ?_)
 refine Rg_op rfl (op_box (cs := [(Value.int .i64 r_.slots), (Value.slice Aa r_.owners.length Ca), (Value.slice Ab r_.costs.length Cb)]) hs rfl rfl ?_)
 intro b1 w2 _ p3 hs4
 replace Fa := Fa.step p3; replace Fb := Fb.step p3; clear p3
 refine Rg_op rfl (op_assign (v := (Value.bool false)) rfl ?_)
 refine Rg_nil (Wp_seq ?_)
 refine Wp_reset [] [(1, (Value.pointer (some ⟨b1, 0, none⟩)))] rfl ⟨rfl, trivial⟩ fun ξ6 => ?_
 replace hm := jn_elim hm; obtain ⟨k8, hk9, hm⟩ := hm
 refine Wp_seqJ [5, 6, 7, 8, 9, 10, 11, 12, 13, 14, 15, 16, 17, 18, 19, 20, 21, 22, 23, 24, 25, 26, 27, 28, 29] (fun fr w' => ∃ (v_1 : Bool) (Ebs : Ents), Ebs = [(some b1, Obj.cells [(Value.int .i64 r_.slots), (Value.slice Aa r_.owners.length Ca), (Value.slice Ab r_.costs.length Cb)].toArray 25)] ∧ fr [] [(29, (Value.bool v_1))] ∧ Step (ks [(some b1, Obj.cells [(Value.int .i64 r_.slots), (Value.slice Aa r_.owners.length Ca), (Value.slice Ab r_.costs.length Cb)].toArray 25)] O) w2 (ks Ebs O) w' ∧ St ⟨w, [], []⟩ O w' Ebs ∧ k8 v_1 = some x) ?_ ?_
 rintro ρ15 w11 ⟨v_1, Ebs, hEbs, hfr14, hst13, hs12, hm⟩
 replace hm := jnE1 hk9 hm
 subst hEbs; rw [hfr14.eq]; clear hfr14
 replace Fa := Fa.step hst13; replace Fb := Fb.step hst13; clear hst13 hs4
 refine Wp_cond rfl (fun hc16 => ?_) (fun hc16 => ?_)
 replace hm := bif_t hm hc16
 refine Wp_seq ?_
 obtain ⟨hs17, p18⟩ := hs12.sub (bs' := []) (.cons _ List.Sublist.slnil)
 clear Fa Fb
 clear p18 hs12
 refine Wp_region ?_
 refine Rg_op rfl (op_assign (v := (Value.bool false)) rfl ?_)
 refine Rg_nil ?_
 refine Wp_ret ?_
 have hz := step_all hs17
 refine ⟨_, (show Closes [] _ _ from rfl), [(Value.bool false)], ⟨rfl, trivial⟩, hs17.ext, ?_⟩
 exact Vr.eq (a := vB) (x := false) rfl (Option.some.inj hm)
 replace hm := bif_f hm hc16
 refine Wp_skip (Wp_seq (Wp_seq (Wp_region ?_)))
 refine Rg_op rfl (op_assign (v := (Value.int .i64 0)) rfl ?_)
 refine Rg_nil (Wp_block ?_)
 refine Wp_reset [] [(1, (Value.pointer (some ⟨b1, 0, none⟩))), (3, (Value.int .i64 0))] rfl ⟨rfl, rfl, trivial⟩ fun ξ20 => ?_
 refine Wp_loopM [2, 3, 4, 30, 31, 32, 33, 34, 35, 36, 37, 38, 39, 40, 41, 42, 43, 44, 45, 46, 47, 48, 49, 50, 51, 52, 53, 54, 55, 56, 57, 58, 59, 60, 61, 62, 63, 64, 65, 66, 67, 68, 69, 70, 71, 72, 73, 74, 75, 76, 77, 78, 79, 80, 81, 82, 83, 84, 85, 86, 87, 88, 89, 90, 91, 92, 93, 94, 95, 96, 97, 98, 99, 100, 101, 102, 103] (fun m fr w' => ∃ (i_1 : Int) (Ebs : Ents), Ebs = [(some b1, Obj.cells [(Value.int .i64 r_.slots), (Value.slice Aa r_.owners.length Ca), (Value.slice Ab r_.costs.length Cb)].toArray 25)] ∧ fr [] [(3, (Value.int .i64 i_1))] ∧ Step (ks [(some b1, Obj.cells [(Value.int .i64 r_.slots), (Value.slice Aa r_.owners.length Ca), (Value.slice Ab r_.costs.length Cb)].toArray 25)] O) w11 (ks Ebs O) w' ∧ St ⟨w, [], []⟩ O w' Ebs ∧ InK .i64 i_1 ∧ loop1 (m54_overflightref37_Valid_B0 r_) m i_1 = some x) (((r_.owners.length : Int) - 0).toNat + 1) ⟨0, _, rfl, ⟨Out.refl _ _, rfl, rfl, trivial⟩, Step.refl _ _, hs12, (show InK .i64 0 from by decide), hm⟩ ?_ ?_
 rintro _ _ ⟨_, _, _, _, _, _, _, hm⟩; exact loop1_z hm
 rintro m24 K23 hK23 ρ29 w25 ⟨i_1, Ebs, hEbs, hfr28, hst27, hs26, Rb, hm⟩
 obtain ⟨sf21, hsf22, hm⟩ := loop1_s hm; unfold m54_overflightref37_Valid_B0 at hm
 subst hEbs; rw [hfr28.eq]; clear hfr28
 replace Fa := Fa.step hst27; replace Fb := Fb.step hst27
 have ch30 := hst27
 refine Wp_seq (Wp_seq (Wp_region ?_))
 refine Rg_op rfl (op_move (v := (Value.int .i64 i_1)) rfl ?_)
 refine Rg_op rfl (op_fieldAddr ty25 rfl ty22 (by decide) rfl (rfl : _ = (⟨_, 1, none⟩ : Addr)) ?_)
 refine Rg_op rfl (op_load (cs := [(Value.int .i64 r_.slots), (Value.slice Aa r_.owners.length Ca), (Value.slice Ab r_.costs.length Cb)]) (i := 0) ty22 hs26 rfl rfl rfl ?_)
 refine Rg_op rfl (op_len Try.underlying22 rfl ?_)
 have rl31 := inK_len Fa
 refine Rg_op rfl (op_lss rfl rfl ?_)
 refine Rg_nil ?_
 refine Wp_cond rfl (fun hc32 => ?_) (fun hc32 => ?_)
 replace hm := bif_t hm hc32
 refine Wp_skip (Wp_seq (Wp_block (Wp_seq ?_)))
 refine Wp_reset2 [2, 3, 4, 30, 31, 32, 33, 34, 35, 36, 37, 38, 39, 40, 41, 42, 43, 44, 45, 46, 47, 48, 49, 50, 51, 52, 53, 54, 55, 56, 57, 58, 59, 60, 61, 62, 63, 64, 65, 66, 67, 68, 69, 70, 71, 72, 73, 74, 75, 76, 77, 78, 79, 80, 81, 82, 83, 84, 85, 86, 87, 88, 89, 90, 91, 92, 93, 94, 95, 96, 97, 98, 99, 100, 101, 102, 103] [] (updL ⟨ξ20, []⟩ [(1, (Value.pointer (some ⟨b1, 0, none⟩))), (3, (Value.int .i64 0))]) [(3, (Value.int .i64 i_1))] (by repeat (first | with_reducible exact Out.refl _ _ | refine Out.upd ?_ rfl | refine Out.updL ?_ rfl | refine Out.mix' ?_ rfl | exact Out.refl _ _)) rfl ⟨rfl, trivial⟩ fun ξ33 => ?_
 replace hm := jn_elim hm; obtain ⟨k35, hk36, hm⟩ := hm
 refine Wp_seqJ [37, 38, 39, 40, 41, 42, 43, 44, 45, 46, 47, 48, 49, 50, 51, 52, 53, 54, 55, 56, 57, 58, 59, 60, 61] (fun fr w' => ∃ (v_2 : Bool) (Ebs : Ents), Ebs = [(some b1, Obj.cells [(Value.int .i64 r_.slots), (Value.slice Aa r_.owners.length Ca), (Value.slice Ab r_.costs.length Cb)].toArray 25)] ∧ fr [] [(61, (Value.bool v_2))] ∧ Step (ks [(some b1, Obj.cells [(Value.int .i64 r_.slots), (Value.slice Aa r_.owners.length Ca), (Value.slice Ab r_.costs.length Cb)].toArray 25)] O) w25 (ks Ebs O) w' ∧ St ⟨w, [], []⟩ O w' Ebs ∧ k35 v_2 = some x) ?_ ?_
 rintro ρ42 w38 ⟨v_2, Ebs, hEbs, hfr41, hst40, hs39, hm⟩
 replace hm := jnE1 hk36 hm
 subst hEbs; rw [hfr41.eq]; clear hfr41
 replace Fa := Fa.step hst40; replace Fb := Fb.step hst40; replace ch30 := ch30.trans hst40; clear hst40 hs26
 refine Wp_cond rfl (fun hc43 => ?_) (fun hc43 => ?_)
 replace hm := bif_t hm hc43
 refine Wp_seq (Wp_region ?_)
 refine Rg_op rfl (op_assign (v := (Value.bool false)) rfl ?_)
 refine Rg_nil ?_
 refine Wp_ret ?_
 have hz := step_all hs39
 replace Fa := Fa.step hz; replace Fb := Fb.step hz
 refine ⟨_, (show Closes [] _ _ from rfl), [(Value.bool false)], ⟨rfl, trivial⟩, hs39.ext, ?_⟩
 exact Vr.eq (a := vB) (x := false) rfl (Option.some.inj hm)
 replace hm := bif_f hm hc43
 refine Wp_skip (Wp_seq (Wp_region ?_))
 refine Rg_op rfl (op_assign (v := (Value.int .i64 0)) rfl ?_)
 refine Rg_nil (Wp_block ?_)
 refine Wp_reset2 [2, 3, 4, 30, 31, 32, 33, 34, 35, 36, 37, 38, 39, 40, 41, 42, 43, 44, 45, 46, 47, 48, 49, 50, 51, 52, 53, 54, 55, 56, 57, 58, 59, 60, 61, 62, 63, 64, 65, 66, 67, 68, 69, 70, 71, 72, 73, 74, 75, 76, 77, 78, 79, 80, 81, 82, 83, 84, 85, 86, 87, 88, 89, 90, 91, 92, 93, 94, 95, 96, 97, 98, 99, 100, 101, 102, 103] [] (updL ⟨ξ20, []⟩ [(1, (Value.pointer (some ⟨b1, 0, none⟩))), (3, (Value.int .i64 0))]) [(3, (Value.int .i64 i_1)), (4, (Value.int .i64 0))] (by repeat (first | with_reducible exact Out.refl _ _ | refine Out.upd ?_ rfl | refine Out.updL ?_ rfl | refine Out.mix' ?_ rfl | exact Out.refl _ _)) rfl ⟨rfl, rfl, trivial⟩ fun ξ45 => ?_
 refine Wp_loopM [2, 4, 62, 63, 64, 65, 66, 67, 68, 69, 70, 71, 72, 73, 74, 75, 76, 77, 78, 79, 80, 81, 82, 83, 84, 85, 86, 87, 88, 89, 90, 91, 92, 93, 94, 95, 96, 97, 98, 99, 100, 101, 102, 103] (fun m fr w' => ∃ (k_1 : Int) (Ebs : Ents), Ebs = [(some b1, Obj.cells [(Value.int .i64 r_.slots), (Value.slice Aa r_.owners.length Ca), (Value.slice Ab r_.costs.length Cb)].toArray 25)] ∧ fr [] [(4, (Value.int .i64 k_1))] ∧ Step (ks [(some b1, Obj.cells [(Value.int .i64 r_.slots), (Value.slice Aa r_.owners.length Ca), (Value.slice Ab r_.costs.length Cb)].toArray 25)] O) w38 (ks Ebs O) w' ∧ St ⟨w, [], []⟩ O w' Ebs ∧ InK .i64 k_1 ∧ loop1 (m54_overflightref37_Valid_B1 r_ i_1 sf21) m k_1 = some x) ((r_.slots - 0).toNat + 1) ⟨0, _, rfl, ⟨Out.refl _ _, rfl, rfl, trivial⟩, Step.refl _ _, hs39, (show InK .i64 0 from by decide), hm⟩ ?_ ?_
 rintro _ _ ⟨_, _, _, _, _, _, _, hm⟩; exact loop1_z hm
 rintro m49 K48 hK48 ρ54 w50 ⟨k_1, Ebs, hEbs, hfr53, hst52, hs51, Rc, hm⟩
 obtain ⟨sf46, hsf47, hm⟩ := loop1_s hm; unfold m54_overflightref37_Valid_B1 at hm
 subst hEbs; rw [hfr53.eq]; clear hfr53
 replace Fa := Fa.step hst52; replace Fb := Fb.step hst52; replace ch30 := ch30.trans hst52
 have ch55 := hst52
 refine Wp_seq (Wp_seq (Wp_region ?_))
 refine Rg_op rfl (op_move (v := (Value.int .i64 k_1)) rfl ?_)
 refine Rg_op rfl (op_fieldAddr ty25 rfl ty3 (by decide) rfl (rfl : _ = (⟨_, 0, none⟩ : Addr)) ?_)
 refine Rg_op rfl (op_load (cs := [(Value.int .i64 r_.slots), (Value.slice Aa r_.owners.length Ca), (Value.slice Ab r_.costs.length Cb)]) (i := 0) ty3 hs51 rfl rfl rfl ?_)
 refine Rg_op rfl (op_lss rfl rfl ?_)
 refine Rg_nil ?_
 refine Wp_cond rfl (fun hc56 => ?_) (fun hc56 => ?_)
 replace hm := bif_t hm hc56
 refine Wp_skip (Wp_seq (Wp_block ?_))
 refine Wp_reset2 [2, 4, 62, 63, 64, 65, 66, 67, 68, 69, 70, 71, 72, 73, 74, 75, 76, 77, 78, 79, 80, 81, 82, 83, 84, 85, 86, 87, 88, 89, 90, 91, 92, 93, 94, 95, 96, 97, 98, 99, 100, 101, 102, 103] [] (updL (mix [2, 3, 4, 30, 31, 32, 33, 34, 35, 36, 37, 38, 39, 40, 41, 42, 43, 44, 45, 46, 47, 48, 49, 50, 51, 52, 53, 54, 55, 56, 57, 58, 59, 60, 61, 62, 63, 64, 65, 66, 67, 68, 69, 70, 71, 72, 73, 74, 75, 76, 77, 78, 79, 80, 81, 82, 83, 84, 85, 86, 87, 88, 89, 90, 91, 92, 93, 94, 95, 96, 97, 98, 99, 100, 101, 102, 103] [] ξ45 (updL ⟨ξ20, []⟩ [(1, (Value.pointer (some ⟨b1, 0, none⟩))), (3, (Value.int .i64 0))])) [(3, (Value.int .i64 i_1)), (4, (Value.int .i64 0))]) [(4, (Value.int .i64 k_1))] (by repeat (first | with_reducible exact Out.refl _ _ | refine Out.upd ?_ rfl | refine Out.updL ?_ rfl | refine Out.mix' ?_ rfl | exact Out.refl _ _)) rfl ⟨rfl, trivial⟩ fun ξ57 => ?_
 replace hm := jn_elim hm; obtain ⟨k59, hk60, hm⟩ := hm
 refine Wp_seqJ [68, 69, 70, 71, 72, 73, 74, 75, 76, 77, 78, 79, 80, 81, 82, 83, 84, 85, 86, 87, 88, 89, 90, 91, 92, 93, 94, 95, 96, 97, 98, 99, 100, 101, 102, 103] (fun fr w' => ∃ (v_3 : Bool) (Ebs : Ents), Ebs = [(some b1, Obj.cells [(Value.int .i64 r_.slots), (Value.slice Aa r_.owners.length Ca), (Value.slice Ab r_.costs.length Cb)].toArray 25)] ∧ fr [] [(103, (Value.bool v_3))] ∧ Step (ks [(some b1, Obj.cells [(Value.int .i64 r_.slots), (Value.slice Aa r_.owners.length Ca), (Value.slice Ab r_.costs.length Cb)].toArray 25)] O) w50 (ks Ebs O) w' ∧ St ⟨w, [], []⟩ O w' Ebs ∧ k59 v_3 = some x) ?_ ?_
 rintro ρ66 w62 ⟨v_3, Ebs, hEbs, hfr65, hst64, hs63, hm⟩
 replace hm := jnE1 hk60 hm
 subst hEbs; rw [hfr65.eq]; clear hfr65
 replace Fa := Fa.step hst64; replace Fb := Fb.step hst64; replace ch30 := ch30.trans hst64; replace ch55 := ch55.trans hst64; clear hst64 hs51
 refine Wp_cond rfl (fun hc67 => ?_) (fun hc67 => ?_)
 replace hm := bif_t hm hc67
 refine Wp_seq (Wp_region ?_)
 refine Rg_op rfl (op_assign (v := (Value.bool false)) rfl ?_)
 refine Rg_nil ?_
 refine Wp_ret ?_
 have hz := step_all hs63
 replace Fa := Fa.step hz; replace Fb := Fb.step hz
 refine ⟨_, (show Closes [] _ _ from rfl), [(Value.bool false)], ⟨rfl, trivial⟩, hs63.ext, ?_⟩
 exact Vr.eq (a := vB) (x := false) rfl (Option.some.inj hm)
 replace hm := bif_f hm hc67
 refine Wp_skip (Wp_region ?_)
 refine Rg_op rfl (op_move (v := (Value.int .i64 k_1)) rfl ?_)
 refine Rg_op rfl (op_addw rfl rfl ?_)
 refine Rg_op rfl (op_assign (v := (Value.int .i64 (IntKind.wrap .i64 (k_1 + 1)))) rfl ?_)
 refine Rg_nil ?_
 exact hK48 _ _ ⟨(IntKind.wrap .i64 (k_1 + 1)), _, rfl, ⟨(by repeat (first | with_reducible exact Out.refl _ _ | refine Out.upd ?_ rfl | refine Out.updL ?_ rfl | refine Out.mix' ?_ rfl | exact Out.refl _ _)), rfl, rfl, trivial⟩, ch55, hs63, (inK_wrap .i64 _), jnE1 hsf47 hm⟩
 intro K61 hK61
 have ch68 := Step.refl (ks [(some b1, Obj.cells [(Value.int .i64 r_.slots), (Value.slice Aa r_.owners.length Ca), (Value.slice Ab r_.costs.length Cb)].toArray 25)] O) w50
 refine Wp_region ?_
 refine Rg_op rfl (op_fieldAddr ty25 rfl ty23 (by decide) rfl (rfl : _ = (⟨_, 2, none⟩ : Addr)) ?_)
 refine Rg_op rfl (op_load (cs := [(Value.int .i64 r_.slots), (Value.slice Aa r_.owners.length Ca), (Value.slice Ab r_.costs.length Cb)]) (i := 0) ty23 hs51 rfl rfl rfl ?_)
 refine Rg_op rfl (op_move (v := (Value.int .i64 i_1)) rfl ?_)
 replace hm := ck_some hm; obtain ⟨hc69, hm⟩ := hm
 refine Rg_op rfl (op_indexAddr (q := (rSl (rInt .i64))) ty23 ty22 rfl rfl Fb rfl hc69.1 hc69.2 ?_)
 intro p70 f71
 refine Rg_op rfl (op_loadP ty22 rfl f71 rfl ?_)
 intro v72 h73
 obtain ⟨Ac, Cc, rfl, Fc⟩ := un_sl h73
 refine Rg_op rfl (op_move (v := (Value.int .i64 k_1)) rfl ?_)
 replace hm := ck_some hm; obtain ⟨hc75, hm⟩ := hm
 refine Rg_op rfl (op_indexAddr (q := (rInt .i64)) ty22 ty3 rfl rfl Fc rfl hc75.1 hc75.2 ?_)
 intro p76 f77
 refine Rg_op rfl (op_loadP ty3 rfl f77 rfl ?_)
 intro v78 h79
 obtain ⟨rfl, Rd⟩ := un_int h79
 refine Rg_op rfl (op_lss rfl rfl ?_)
 refine Rg_op rfl (op_move (v := (Value.bool (decide (((r_.costs.getD i_1.toNat default).getD k_1.toNat default) < (-1))))) rfl ?_)
 refine Rg_case (fun hg81 => ?_) (fun hg81 => ?_)
 replace hm := bif_t hm hg81
 iterate 9 refine Rg_opx rfl (asB_ne rfl rfl) rfl ?_
 refine Rg_op rfl (op_pick_t (v := (Value.bool true)) rfl rfl ?_)
 refine Rg_op rfl (op_move (v := (Value.bool true)) rfl ?_)
 iterate 14 refine Rg_opx rfl (asB_ne rfl rfl) rfl ?_
 refine Rg_op rfl (op_pick_t (v := (Value.bool true)) rfl rfl ?_)
 refine Rg_nil ?_
 exact hK61 _ _ ⟨true, _, rfl, ⟨(by repeat (first | with_reducible exact Out.refl _ _ | refine Out.upd ?_ rfl | refine Out.updL ?_ rfl | refine Out.mix' ?_ rfl | exact Out.refl _ _)), rfl, rfl, trivial⟩, ch68, hs51, hm⟩
 replace hm := bif_f hm hg81
 refine Rg_opg rfl rfl rfl (op_fieldAddr ty25 rfl ty23 (by decide) rfl (rfl : _ = (⟨_, 2, none⟩ : Addr)) ?_)
 refine Rg_opg rfl rfl rfl (op_load (cs := [(Value.int .i64 r_.slots), (Value.slice Aa r_.owners.length Ca), (Value.slice Ab r_.costs.length Cb)]) (i := 0) ty23 hs51 rfl rfl rfl ?_)
 refine Rg_opg rfl rfl rfl (op_move (v := (Value.int .i64 i_1)) rfl ?_)
 replace hm := ck_some hm; obtain ⟨hc82, hm⟩ := hm
 refine Rg_opg rfl rfl rfl (op_indexAddr (q := (rSl (rInt .i64))) ty23 ty22 rfl rfl Fb rfl hc82.1 hc82.2 ?_)
 intro p83 f84
 refine Rg_opg rfl rfl rfl (op_loadP ty22 rfl f84 rfl ?_)
 intro v85 h86
 obtain ⟨Ad, Cd, rfl, Fd⟩ := un_sl h86
 refine Rg_opg rfl rfl rfl (op_move (v := (Value.int .i64 k_1)) rfl ?_)
 replace hm := ck_some hm; obtain ⟨hc88, hm⟩ := hm
 refine Rg_opg rfl rfl rfl (op_indexAddr (q := (rInt .i64)) ty22 ty3 rfl rfl Fd rfl hc88.1 hc88.2 ?_)
 intro p89 f90
 refine Rg_opg rfl rfl rfl (op_loadP ty3 rfl f90 rfl ?_)
 intro v91 h92
 obtain ⟨rfl, Re⟩ := un_int h92
 refine Rg_opg rfl rfl rfl (op_gtr rfl rfl ?_)
 refine Rg_op rfl (op_pick_f (v := (Value.bool (decide (1048576 < ((r_.costs.getD i_1.toNat default).getD k_1.toNat default))))) rfl rfl ?_)
 refine Rg_op rfl (op_move (v := (Value.bool (decide (1048576 < ((r_.costs.getD i_1.toNat default).getD k_1.toNat default))))) rfl ?_)
 refine Rg_case (fun hg94 => ?_) (fun hg94 => ?_)
 replace hm := bif_t hm hg94
 iterate 14 refine Rg_opx rfl (asB_ne rfl rfl) rfl ?_
 refine Rg_op rfl (op_pick_t (v := (Value.bool true)) rfl rfl ?_)
 refine Rg_nil ?_
 exact hK61 _ _ ⟨true, _, rfl, ⟨(by repeat (first | with_reducible exact Out.refl _ _ | refine Out.upd ?_ rfl | refine Out.updL ?_ rfl | refine Out.mix' ?_ rfl | exact Out.refl _ _)), rfl, rfl, trivial⟩, ch68, hs51, hm⟩
 replace hm := bif_f hm hg94
 refine Rg_opg rfl rfl rfl (op_move (v := (Value.int .i64 k_1)) rfl ?_)
 refine Rg_opg rfl rfl rfl (op_move (v := (Value.int .i64 i_1)) rfl ?_)
 refine Rg_opg rfl rfl rfl (op_eql rfl rfl ?_)
 refine Rg_opg rfl rfl rfl (op_move (v := (Value.bool (decide (k_1 = i_1)))) rfl ?_)
 refine Rg_case (fun hg95 => ?_) (fun hg95 => ?_)
 replace hm := bif_t hm hg95
 refine Rg_opg rfl rfl rfl (op_fieldAddr ty25 rfl ty23 (by decide) rfl (rfl : _ = (⟨_, 2, none⟩ : Addr)) ?_)
 refine Rg_opg rfl rfl rfl (op_load (cs := [(Value.int .i64 r_.slots), (Value.slice Aa r_.owners.length Ca), (Value.slice Ab r_.costs.length Cb)]) (i := 0) ty23 hs51 rfl rfl rfl ?_)
 refine Rg_opg rfl rfl rfl (op_move (v := (Value.int .i64 i_1)) rfl ?_)
 replace hm := ck_some hm; obtain ⟨hc96, hm⟩ := hm
 refine Rg_opg rfl rfl rfl (op_indexAddr (q := (rSl (rInt .i64))) ty23 ty22 rfl rfl Fb rfl hc96.1 hc96.2 ?_)
 intro p97 f98
 refine Rg_opg rfl rfl rfl (op_loadP ty22 rfl f98 rfl ?_)
 intro v99 h100
 obtain ⟨Ae, Ce, rfl, Fe⟩ := un_sl h100
 refine Rg_opg rfl rfl rfl (op_move (v := (Value.int .i64 k_1)) rfl ?_)
 replace hm := ck_some hm; obtain ⟨hc102, hm⟩ := hm
 refine Rg_opg rfl rfl rfl (op_indexAddr (q := (rInt .i64)) ty22 ty3 rfl rfl Fe rfl hc102.1 hc102.2 ?_)
 intro p103 f104
 refine Rg_opg rfl rfl rfl (op_loadP ty3 rfl f104 rfl ?_)
 intro v105 h106
 obtain ⟨rfl, Rf⟩ := un_int h106
 refine Rg_opg rfl rfl rfl (op_lss rfl rfl ?_)
 refine Rg_opg rfl rfl rfl (op_pick_t (v := (Value.bool (decide (((r_.costs.getD i_1.toNat default).getD k_1.toNat default) < 0)))) rfl rfl ?_)
 refine Rg_op rfl (op_pick_f (v := (Value.bool (decide (((r_.costs.getD i_1.toNat default).getD k_1.toNat default) < 0)))) rfl rfl ?_)
 refine Rg_nil ?_
 exact hK61 _ _ ⟨(decide (((r_.costs.getD i_1.toNat default).getD k_1.toNat default) < 0)), _, rfl, ⟨(by repeat (first | with_reducible exact Out.refl _ _ | refine Out.upd ?_ rfl | refine Out.updL ?_ rfl | refine Out.mix' ?_ rfl | exact Out.refl _ _)), rfl, rfl, trivial⟩, ch68, hs51, hm⟩
 replace hm := bif_f hm hg95
 iterate 9 refine Rg_opx rfl (asB_ne rfl rfl) rfl ?_
 refine Rg_opg rfl rfl rfl (op_pick_f (v := (Value.bool false)) rfl rfl ?_)
 refine Rg_op rfl (op_pick_f (v := (Value.bool false)) rfl rfl ?_)
 refine Rg_nil ?_
 exact hK61 _ _ ⟨false, _, rfl, ⟨(by repeat (first | with_reducible exact Out.refl _ _ | refine Out.upd ?_ rfl | refine Out.updL ?_ rfl | refine Out.mix' ?_ rfl | exact Out.refl _ _)), rfl, rfl, trivial⟩, ch68, hs51, hm⟩
 replace hm := bif_f hm hc56
 refine Wp_exit (Wp_region ?_)
 refine Rg_op rfl (op_move (v := (Value.int .i64 i_1)) rfl ?_)
 refine Rg_op rfl (op_addw rfl rfl ?_)
 refine Rg_op rfl (op_assign (v := (Value.int .i64 (IntKind.wrap .i64 (i_1 + 1)))) rfl ?_)
 refine Rg_nil ?_
 exact hK23 _ _ ⟨(IntKind.wrap .i64 (i_1 + 1)), _, rfl, ⟨(by repeat (first | with_reducible exact Out.refl _ _ | refine Out.upd ?_ rfl | refine Out.updL ?_ rfl | refine Out.mix' ?_ rfl | exact Out.refl _ _)), rfl, rfl, trivial⟩, ch30, hs51, (inK_wrap .i64 _), jnE1 hsf22 hm⟩
 intro K37 hK37
 have ch108 := Step.refl (ks [(some b1, Obj.cells [(Value.int .i64 r_.slots), (Value.slice Aa r_.owners.length Ca), (Value.slice Ab r_.costs.length Cb)].toArray 25)] O) w25
 refine Wp_drawR (g0 := []) (m := 23) (fl := []) (TS_inv hs26) rfl (.inl rfl) rfl (by decide +kernel) ?_  -- 6
 refine Dw_eq (Value.pointer (some ⟨b1, 1, none⟩)) (fun ρ109 w110 g hle hi ht => ?_) ?_
 obtain ⟨-, hst, -⟩ := hle
 refine StepOp_plain (op_fieldAddr ty25 rfl ty22 (by decide) (ht 1 rfl) (rfl : _ = (⟨_, 1, none⟩ : Addr)) ?_)
 exact Goes.same hi rfl
 refine Dw_eq (Value.slice Aa r_.owners.length Ca) (fun ρ112 w113 g hle hi ht => ?_) ?_
 obtain ⟨-, hst, -⟩ := hle
 have hsn := (Step.nx hi).1
 refine StepOp_plain (op_load (cs := [(Value.int .i64 r_.slots), (Value.slice Aa r_.owners.length Ca), (Value.slice Ab r_.costs.length Cb)]) (i := 0) ty22 hsn (ht 37 rfl) rfl rfl ?_)
 exact Goes.same hi rfl
 refine Dw_eq (Value.int .i64 i_1) (fun ρ115 w116 g hle hi ht => ?_) ?_
 obtain ⟨-, hst, -⟩ := hle
 refine StepOp_plain (op_move (v := (Value.int .i64 i_1)) (ht 3 rfl) ?_)
 exact Goes.same hi rfl
 replace hm := ck_some hm; obtain ⟨hc121, hm⟩ := hm
 refine Dw_op (VP O [(some b1, Obj.cells [(Value.int .i64 r_.slots), (Value.slice Aa r_.owners.length Ca), (Value.slice Ab r_.costs.length Cb)].toArray 25)] (rInt .i64) (r_.owners.getD i_1.toNat default)) (VP.stab _ _) (fun ρ118 w119 g hle hi ht => ?_) ?_
 obtain ⟨-, hst, -⟩ := hle
 replace Fa := Fa.step hst
 refine StepOp_plain (op_indexAddr (q := (rInt .i64)) ty22 ty3 (ht 38 rfl) (ht 39 rfl) Fa rfl hc121.1 hc121.2 ?_)
 intro p122 f123
 exact Goes.same hi ⟨_, rfl, f123⟩
 refine Dw_op (VD O [(some b1, Obj.cells [(Value.int .i64 r_.slots), (Value.slice Aa r_.owners.length Ca), (Value.slice Ab r_.costs.length Cb)].toArray 25)] (vI .i64) (r_.owners.getD i_1.toNat default)) (VD.stab _ _) (fun ρ124 w125 g hle hi ht => ?_) ?_
 obtain ⟨-, hst, -⟩ := hle
 obtain ⟨p127, q128, f129⟩ := ht 40 rfl
 refine StepOp_plain (op_loadP ty3 q128 f129 rfl ?_)
 intro v130 h131
 obtain ⟨rfl, Rg⟩ := un_int h131
 exact Goes.same hi (show Vr.vd (vI .i64) _ _ _ _ from ⟨rfl, Rg⟩)
 refine Dw_eq (Value.bool (decide ((r_.owners.getD i_1.toNat default) < 0))) (fun ρ133 w134 g hle hi ht => ?_) ?_
 obtain ⟨-, hst, -⟩ := hle
 have h136 : Vr.vd (vI .i64) _ _ _ _ := ht 41 rfl
 obtain ⟨q137, Rh⟩ := h136
 refine StepOp_plain (op_lss q137 rfl ?_)
 exact Goes.same hi rfl
 refine Dw_opB (decide ((r_.owners.getD i_1.toNat default) < 0)) (fun ρ139 w140 g hle hi ht => ?_) (fun hg142 => ?_) (fun hg142 => ?_)
 obtain ⟨-, hst, -⟩ := hle
 refine StepOp_plain (op_move (v := (Value.bool (decide ((r_.owners.getD i_1.toNat default) < 0)))) (ht 42 rfl) ?_)
 exact Goes.same hi rfl
 replace hm := bif_t hm hg142
 refine Dw_skip (fun _ _ _ ht => wanted_x rfl (ht 43 rfl) rfl) ?_
 refine Dw_skip (fun _ _ _ ht => wanted_x rfl (ht 43 rfl) rfl) ?_
 refine Dw_skip (fun _ _ _ ht => wanted_x rfl (ht 43 rfl) rfl) ?_
 refine Dw_skip (fun _ _ _ ht => wanted_x rfl (ht 43 rfl) rfl) ?_
 refine Dw_skip (fun _ _ _ ht => wanted_x rfl (ht 43 rfl) rfl) ?_
 refine Dw_skip (fun _ _ _ ht => wanted_x rfl (ht 43 rfl) rfl) ?_
 refine Dw_eq (Value.bool true) (fun ρ143 w144 g hle hi ht => ?_) ?_
 obtain ⟨-, hst, -⟩ := hle
 refine StepOp_plain (op_pick_t (v := (Value.bool true)) (ht 43 rfl) rfl ?_)
 exact Goes.same hi rfl
 refine Dw_eq (Value.bool true) (fun ρ146 w147 g hle hi ht => ?_) ?_
 obtain ⟨-, hst, -⟩ := hle
 refine StepOp_plain (op_move (v := (Value.bool true)) (ht 50 rfl) ?_)
 exact Goes.same hi rfl
 refine Dw_skip (fun _ _ _ ht => wanted_x rfl (ht 51 rfl) rfl) ?_
 refine Dw_skip (fun _ _ _ ht => wanted_x rfl (ht 51 rfl) rfl) ?_
 refine Dw_skip (fun _ _ _ ht => wanted_x rfl (ht 51 rfl) rfl) ?_
 refine Dw_skip (fun _ _ _ ht => wanted_x rfl (ht 51 rfl) rfl) ?_
 refine Dw_skip (fun _ _ _ ht => wanted_x rfl (ht 51 rfl) rfl) ?_
 refine Dw_skip (fun _ _ _ ht => wanted_x rfl (ht 51 rfl) rfl) ?_
 refine Dw_skip (fun _ _ _ ht => wanted_x rfl (ht 51 rfl) rfl) ?_
 refine Dw_skip (fun _ _ _ ht => wanted_x rfl (ht 51 rfl) rfl) ?_
 refine Dw_nil fun w153 g154 hl155 hi156 => ?_
 obtain ⟨-, hst157, -⟩ := hl155
 obtain ⟨hs159, p158⟩ := Step.nx hi156
 rintro _ rfl
 rintro _ rfl
 rintro _ rfl
 rintro _ rfl
 rintro _ rfl
 rintro _ rfl
 rintro _ rfl
 rintro _ rfl
 rintro _ rfl
 rintro _ rfl
 rintro _ rfl
 rintro _ rfl
 rintro _ rfl
 rintro _ rfl
 rintro _ rfl
 rintro _ rfl
 rintro _ rfl
 rintro _ rfl
 rintro v160 h161
 replace h161 : Vr.vd (vI .i64) _ _ _ _ := h161
 obtain ⟨rfl, Ri⟩ := h161
 rintro _ ⟨p163, rfl, f164⟩
 rintro _ rfl
 rintro _ rfl
 rintro _ rfl
 have p165 : Step (ks [(some b1, Obj.cells [(Value.int .i64 r_.slots), (Value.slice Aa r_.owners.length Ca), (Value.slice Ab r_.costs.length Cb)].toArray 25)] O) w25 (ks [(some b1, Obj.cells [(Value.int .i64 r_.slots), (Value.slice Aa r_.owners.length Ca), (Value.slice Ab r_.costs.length Cb)].toArray 25)] O) w153 := hst157.trans p158
 replace f164 := f164.step p158; replace Fa := Fa.step p165; replace Fb := Fb.step p165; replace ch30 := ch30.trans p165; replace ch108 := ch108.trans p165; clear p165 hs26
 refine Rg_opx rfl (asB_ne rfl rfl) rfl ?_
 refine Rg_op rfl (op_pick_t (v := (Value.bool true)) rfl rfl ?_)
 refine Rg_nil ?_
 exact hK37 _ _ ⟨true, _, rfl, ⟨(by repeat (first | with_reducible exact Out.refl _ _ | refine Out.upd ?_ rfl | refine Out.updL ?_ rfl | refine Out.mix' ?_ rfl | exact Out.refl _ _)), rfl, rfl, trivial⟩, ch108, hs159, hm⟩
 replace hm := bif_f hm hg142
 refine Dw_eq (Value.pointer (some ⟨b1, 1, none⟩)) (fun ρ166 w167 g hle hi ht => ?_) ?_
 obtain ⟨-, hst, -⟩ := hle
 refine StepOp_g rfl (ht 43 rfl) (op_fieldAddr ty25 rfl ty22 (by decide) (ht 1 rfl) (rfl : _ = (⟨_, 1, none⟩ : Addr)) ?_)
 exact Goes.same hi rfl
 refine Dw_eq (Value.slice Aa r_.owners.length Ca) (fun ρ169 w170 g hle hi ht => ?_) ?_
 obtain ⟨-, hst, -⟩ := hle
 have hsn := (Step.nx hi).1
 refine StepOp_g rfl (ht 43 rfl) (op_load (cs := [(Value.int .i64 r_.slots), (Value.slice Aa r_.owners.length Ca), (Value.slice Ab r_.costs.length Cb)]) (i := 0) ty22 hsn (ht 44 rfl) rfl rfl ?_)
 exact Goes.same hi rfl
 refine Dw_eq (Value.int .i64 i_1) (fun ρ172 w173 g hle hi ht => ?_) ?_
 obtain ⟨-, hst, -⟩ := hle
 refine StepOp_g rfl (ht 43 rfl) (op_move (v := (Value.int .i64 i_1)) (ht 3 rfl) ?_)
 exact Goes.same hi rfl
 replace hm := ck_some hm; obtain ⟨hc178, hm⟩ := hm
 refine Dw_op (VP O [(some b1, Obj.cells [(Value.int .i64 r_.slots), (Value.slice Aa r_.owners.length Ca), (Value.slice Ab r_.costs.length Cb)].toArray 25)] (rInt .i64) (r_.owners.getD i_1.toNat default)) (VP.stab _ _) (fun ρ175 w176 g hle hi ht => ?_) ?_
 obtain ⟨-, hst, -⟩ := hle
 replace Fa := Fa.step hst
 refine StepOp_g rfl (ht 43 rfl) (op_indexAddr (q := (rInt .i64)) ty22 ty3 (ht 45 rfl) (ht 46 rfl) Fa rfl hc178.1 hc178.2 ?_)
 intro p179 f180
 exact Goes.same hi ⟨_, rfl, f180⟩
 refine Dw_op (VD O [(some b1, Obj.cells [(Value.int .i64 r_.slots), (Value.slice Aa r_.owners.length Ca), (Value.slice Ab r_.costs.length Cb)].toArray 25)] (vI .i64) (r_.owners.getD i_1.toNat default)) (VD.stab _ _) (fun ρ181 w182 g hle hi ht => ?_) ?_
 obtain ⟨-, hst, -⟩ := hle
 obtain ⟨p184, q185, f186⟩ := ht 47 rfl
 refine StepOp_g rfl (ht 43 rfl) (op_loadP ty3 q185 f186 rfl ?_)
 intro v187 h188
 obtain ⟨rfl, Rj⟩ := un_int h188
 exact Goes.same hi (show Vr.vd (vI .i64) _ _ _ _ from ⟨rfl, Rj⟩)
 refine Dw_eq (Value.bool (decide (8 ≤ (r_.owners.getD i_1.toNat default)))) (fun ρ190 w191 g hle hi ht => ?_) ?_
 obtain ⟨-, hst, -⟩ := hle
 have h193 : Vr.vd (vI .i64) _ _ _ _ := ht 48 rfl
 obtain ⟨q194, Rk⟩ := h193
 refine StepOp_g rfl (ht 43 rfl) (op_geq q194 rfl ?_)
 exact Goes.same hi rfl
 refine Dw_eq (Value.bool (decide (8 ≤ (r_.owners.getD i_1.toNat default)))) (fun ρ196 w197 g hle hi ht => ?_) ?_
 obtain ⟨-, hst, -⟩ := hle
 refine StepOp_plain (op_pick_f (v := (Value.bool (decide (8 ≤ (r_.owners.getD i_1.toNat default))))) (ht 43 rfl) (ht 49 rfl) ?_)
 exact Goes.same hi rfl
 refine Dw_opB (decide (8 ≤ (r_.owners.getD i_1.toNat default))) (fun ρ199 w200 g hle hi ht => ?_) (fun hg202 => ?_) (fun hg202 => ?_)
 obtain ⟨-, hst, -⟩ := hle
 refine StepOp_plain (op_move (v := (Value.bool (decide (8 ≤ (r_.owners.getD i_1.toNat default))))) (ht 50 rfl) ?_)
 exact Goes.same hi rfl
 replace hm := bif_t hm hg202
 refine Dw_skip (fun _ _ _ ht => wanted_x rfl (ht 51 rfl) rfl) ?_
 refine Dw_skip (fun _ _ _ ht => wanted_x rfl (ht 51 rfl) rfl) ?_
 refine Dw_skip (fun _ _ _ ht => wanted_x rfl (ht 51 rfl) rfl) ?_
 refine Dw_skip (fun _ _ _ ht => wanted_x rfl (ht 51 rfl) rfl) ?_
 refine Dw_skip (fun _ _ _ ht => wanted_x rfl (ht 51 rfl) rfl) ?_
 refine Dw_skip (fun _ _ _ ht => wanted_x rfl (ht 51 rfl) rfl) ?_
 refine Dw_skip (fun _ _ _ ht => wanted_x rfl (ht 51 rfl) rfl) ?_
 refine Dw_skip (fun _ _ _ ht => wanted_x rfl (ht 51 rfl) rfl) ?_
 refine Dw_nil fun w207 g208 hl209 hi210 => ?_
 obtain ⟨-, hst211, -⟩ := hl209
 obtain ⟨hs213, p212⟩ := Step.nx hi210
 rintro _ rfl
 rintro _ rfl
 rintro _ rfl
 rintro _ rfl
 rintro _ rfl
 rintro _ rfl
 rintro _ rfl
 rintro _ rfl
 rintro _ rfl
 rintro _ rfl
 rintro _ rfl
 rintro v214 h215
 replace h215 : Vr.vd (vI .i64) _ _ _ _ := h215
 obtain ⟨rfl, Rl⟩ := h215
 rintro _ ⟨p217, rfl, f218⟩
 rintro _ rfl
 rintro _ rfl
 rintro _ rfl
 rintro _ rfl
 rintro _ rfl
 rintro v219 h220
 replace h220 : Vr.vd (vI .i64) _ _ _ _ := h220
 obtain ⟨rfl, Rm⟩ := h220
 rintro _ ⟨p222, rfl, f223⟩
 rintro _ rfl
 rintro _ rfl
 rintro _ rfl
 have p224 : Step (ks [(some b1, Obj.cells [(Value.int .i64 r_.slots), (Value.slice Aa r_.owners.length Ca), (Value.slice Ab r_.costs.length Cb)].toArray 25)] O) w25 (ks [(some b1, Obj.cells [(Value.int .i64 r_.slots), (Value.slice Aa r_.owners.length Ca), (Value.slice Ab r_.costs.length Cb)].toArray 25)] O) w207 := hst211.trans p212
 replace f218 := f218.step p212; replace f223 := f223.step p212; replace Fa := Fa.step p224; replace Fb := Fb.step p224; replace ch30 := ch30.trans p224; replace ch108 := ch108.trans p224; clear p224 hs26
 refine Rg_opx rfl (asB_ne rfl rfl) rfl ?_
 refine Rg_op rfl (op_pick_t (v := (Value.bool true)) rfl rfl ?_)
 refine Rg_nil ?_
 exact hK37 _ _ ⟨true, _, rfl, ⟨(by repeat (first | with_reducible exact Out.refl _ _ | refine Out.upd ?_ rfl | refine Out.updL ?_ rfl | refine Out.mix' ?_ rfl | exact Out.refl _ _)), rfl, rfl, trivial⟩, ch108, hs213, hm⟩
 replace hm := bif_f hm hg202
 refine Dw_eq (Value.pointer (some ⟨b1, 2, none⟩)) (fun ρ225 w226 g hle hi ht => ?_) ?_
 obtain ⟨-, hst, -⟩ := hle
 refine StepOp_g rfl (ht 51 rfl) (op_fieldAddr ty25 rfl ty23 (by decide) (ht 1 rfl) (rfl : _ = (⟨_, 2, none⟩ : Addr)) ?_)
 exact Goes.same hi rfl
 refine Dw_eq (Value.slice Ab r_.costs.length Cb) (fun ρ228 w229 g hle hi ht => ?_) ?_
 obtain ⟨-, hst, -⟩ := hle
 have hsn := (Step.nx hi).1
 refine StepOp_g rfl (ht 51 rfl) (op_load (cs := [(Value.int .i64 r_.slots), (Value.slice Aa r_.owners.length Ca), (Value.slice Ab r_.costs.length Cb)]) (i := 0) ty23 hsn (ht 52 rfl) rfl rfl ?_)
 exact Goes.same hi rfl
 refine Dw_eq (Value.int .i64 i_1) (fun ρ231 w232 g hle hi ht => ?_) ?_
 obtain ⟨-, hst, -⟩ := hle
 refine StepOp_g rfl (ht 51 rfl) (op_move (v := (Value.int .i64 i_1)) (ht 3 rfl) ?_)
 exact Goes.same hi rfl
 replace hm := ck_some hm; obtain ⟨hc237, hm⟩ := hm
 refine Dw_op (VP O [(some b1, Obj.cells [(Value.int .i64 r_.slots), (Value.slice Aa r_.owners.length Ca), (Value.slice Ab r_.costs.length Cb)].toArray 25)] (rSl (rInt .i64)) (r_.costs.getD i_1.toNat default)) (VP.stab _ _) (fun ρ234 w235 g hle hi ht => ?_) ?_
 obtain ⟨-, hst, -⟩ := hle
 replace Fb := Fb.step hst
 refine StepOp_g rfl (ht 51 rfl) (op_indexAddr (q := (rSl (rInt .i64))) ty23 ty22 (ht 53 rfl) (ht 54 rfl) Fb rfl hc237.1 hc237.2 ?_)
 intro p238 f239
 exact Goes.same hi ⟨_, rfl, f239⟩
 refine Dw_op (VD O [(some b1, Obj.cells [(Value.int .i64 r_.slots), (Value.slice Aa r_.owners.length Ca), (Value.slice Ab r_.costs.length Cb)].toArray 25)] (vC (rSl (rInt .i64))) (r_.costs.getD i_1.toNat default)) (VD.stab _ _) (fun ρ240 w241 g hle hi ht => ?_) ?_
 obtain ⟨-, hst, -⟩ := hle
 obtain ⟨p243, q244, f245⟩ := ht 55 rfl
 refine StepOp_g rfl (ht 51 rfl) (op_loadP ty22 q244 f245 rfl ?_)
 intro v246 h247
 obtain ⟨Af, Cf, rfl, Ff⟩ := un_sl h247
 exact Goes.same hi (show Vr.vd (vC (rSl (rInt .i64))) _ _ _ _ from (mkC (mk_sl Ff)))
 refine Dw_op (VD O [(some b1, Obj.cells [(Value.int .i64 r_.slots), (Value.slice Aa r_.owners.length Ca), (Value.slice Ab r_.costs.length Cb)].toArray 25)] (vI .i64) ((r_.costs.getD i_1.toNat default).length : Int)) (VD.stab _ _) (fun ρ249 w250 g hle hi ht => ?_) ?_
 obtain ⟨-, hst, -⟩ := hle
 have h252 : Vr.vd (vC (rSl (rInt .i64))) _ _ _ _ := ht 56 rfl
 obtain ⟨Ag, Cg, q253, Fg⟩ := un_sl h252
 refine StepOp_g rfl (ht 51 rfl) (op_len Try.underlying22 q253 ?_)
 exact Goes.same hi (show Vr.vd (vI .i64) _ _ _ _ from ⟨rfl, (inK_len Fg)⟩)
 refine Dw_eq (Value.pointer (some ⟨b1, 0, none⟩)) (fun ρ255 w256 g hle hi ht => ?_) ?_
 obtain ⟨-, hst, -⟩ := hle
 refine StepOp_g rfl (ht 51 rfl) (op_fieldAddr ty25 rfl ty3 (by decide) (ht 1 rfl) (rfl : _ = (⟨_, 0, none⟩ : Addr)) ?_)
 exact Goes.same hi rfl
 refine Dw_eq (Value.int .i64 r_.slots) (fun ρ258 w259 g hle hi ht => ?_) ?_
 obtain ⟨-, hst, -⟩ := hle
 have hsn := (Step.nx hi).1
 refine StepOp_g rfl (ht 51 rfl) (op_load (cs := [(Value.int .i64 r_.slots), (Value.slice Aa r_.owners.length Ca), (Value.slice Ab r_.costs.length Cb)]) (i := 0) ty3 hsn (ht 58 rfl) rfl rfl ?_)
 exact Goes.same hi rfl
 refine Dw_nil fun w265 g266 hl267 hi268 => ?_
 obtain ⟨-, hst269, -⟩ := hl267
 obtain ⟨hs271, p270⟩ := Step.nx hi268
 rintro _ rfl
 rintro _ rfl
 rintro v272 h273
 replace h273 : Vr.vd (vI .i64) _ _ _ _ := h273
 obtain ⟨rfl, Rn⟩ := h273
 rintro v275 h276
 replace h276 : Vr.vd (vC (rSl (rInt .i64))) _ _ _ _ := h276
 obtain ⟨Ah, Ch, rfl, Fh⟩ := un_sl h276
 rintro _ ⟨p278, rfl, f279⟩
 rintro _ rfl
 rintro _ rfl
 rintro _ rfl
 rintro _ rfl
 rintro _ rfl
 rintro _ rfl
 rintro v280 h281
 replace h281 : Vr.vd (vI .i64) _ _ _ _ := h281
 obtain ⟨rfl, Ro⟩ := h281
 rintro _ ⟨p283, rfl, f284⟩
 rintro _ rfl
 rintro _ rfl
 rintro _ rfl
 rintro _ rfl
 rintro _ rfl
 rintro v285 h286
 replace h286 : Vr.vd (vI .i64) _ _ _ _ := h286
 obtain ⟨rfl, Rp⟩ := h286
 rintro _ ⟨p288, rfl, f289⟩
 rintro _ rfl
 rintro _ rfl
 rintro _ rfl
 have p290 : Step (ks [(some b1, Obj.cells [(Value.int .i64 r_.slots), (Value.slice Aa r_.owners.length Ca), (Value.slice Ab r_.costs.length Cb)].toArray 25)] O) w25 (ks [(some b1, Obj.cells [(Value.int .i64 r_.slots), (Value.slice Aa r_.owners.length Ca), (Value.slice Ab r_.costs.length Cb)].toArray 25)] O) w265 := hst269.trans p270
 replace Fh := Fh.step p270; replace f279 := f279.step p270; replace f284 := f284.step p270; replace f289 := f289.step p270; replace Fa := Fa.step p290; replace Fb := Fb.step p290; replace ch30 := ch30.trans p290; replace ch108 := ch108.trans p290; clear p290 hs26
 refine Rg_opg rfl rfl rfl (op_neq rfl rfl ?_)
 refine Rg_op rfl (op_pick_f (v := (Value.bool (decide (((r_.costs.getD i_1.toNat default).length : Int) ≠ r_.slots)))) rfl rfl ?_)
 refine Rg_nil ?_
 exact hK37 _ _ ⟨(decide (((r_.costs.getD i_1.toNat default).length : Int) ≠ r_.slots)), _, rfl, ⟨(by repeat (first | with_reducible exact Out.refl _ _ | refine Out.upd ?_ rfl | refine Out.updL ?_ rfl | refine Out.mix' ?_ rfl | exact Out.refl _ _)), rfl, rfl, trivial⟩, ch108, hs271, hm⟩
 replace hm := bif_f hm hc32
 refine Wp_exit (Wp_seq ?_)
 obtain ⟨hs291, p292⟩ := hs26.sub (bs' := []) (.cons _ List.Sublist.slnil)
 clear Fa Fb
 replace ch30 := ch30.trans p292; clear p292 hs26
 refine Wp_region ?_
 refine Rg_op rfl (op_assign (v := (Value.bool true)) rfl ?_)
 refine Rg_nil ?_
 refine Wp_ret ?_
 have hz := step_all hs291
 refine ⟨_, (show Closes [] _ _ from rfl), [(Value.bool true)], ⟨rfl, trivial⟩, hs291.ext, ?_⟩
 exact Vr.eq (a := vB) (x := true) rfl (Option.some.inj hm)
 intro K10 hK10
 have ch293 := Step.refl (ks [(some b1, Obj.cells [(Value.int .i64 r_.slots), (Value.slice Aa r_.owners.length Ca), (Value.slice Ab r_.costs.length Cb)].toArray 25)] O) w2
 refine Wp_region ?_
 refine Rg_op rfl (op_fieldAddr ty25 rfl ty3 (by decide) rfl (rfl : _ = (⟨_, 0, none⟩ : Addr)) ?_)
 refine Rg_op rfl (op_load (cs := [(Value.int .i64 r_.slots), (Value.slice Aa r_.owners.length Ca), (Value.slice Ab r_.costs.length Cb)]) (i := 0) ty3 hs4 rfl rfl rfl ?_)
 refine Rg_op rfl (op_lss rfl rfl ?_)
 refine Rg_op rfl (op_move (v := (Value.bool (decide (r_.slots < 1)))) rfl ?_)
 refine Rg_case (fun hg294 => ?_) (fun hg294 => ?_)
 replace hm := bif_t hm hg294
 iterate 3 refine Rg_opx rfl (asB_ne rfl rfl) rfl ?_
 refine Rg_op rfl (op_pick_t (v := (Value.bool true)) rfl rfl ?_)
 refine Rg_op rfl (op_move (v := (Value.bool true)) rfl ?_)
 iterate 6 refine Rg_opx rfl (asB_ne rfl rfl) rfl ?_
 refine Rg_op rfl (op_pick_t (v := (Value.bool true)) rfl rfl ?_)
 refine Rg_op rfl (op_move (v := (Value.bool true)) rfl ?_)
 iterate 7 refine Rg_opx rfl (asB_ne rfl rfl) rfl ?_
 refine Rg_op rfl (op_pick_t (v := (Value.bool true)) rfl rfl ?_)
 refine Rg_nil ?_
 exact hK10 _ _ ⟨true, _, rfl, ⟨(by repeat (first | with_reducible exact Out.refl _ _ | refine Out.upd ?_ rfl | refine Out.updL ?_ rfl | refine Out.mix' ?_ rfl | exact Out.refl _ _)), rfl, rfl, trivial⟩, ch293, hs4, hm⟩
 replace hm := bif_f hm hg294
 refine Rg_opg rfl rfl rfl (op_fieldAddr ty25 rfl ty3 (by decide) rfl (rfl : _ = (⟨_, 0, none⟩ : Addr)) ?_)
 refine Rg_opg rfl rfl rfl (op_load (cs := [(Value.int .i64 r_.slots), (Value.slice Aa r_.owners.length Ca), (Value.slice Ab r_.costs.length Cb)]) (i := 0) ty3 hs4 rfl rfl rfl ?_)
 refine Rg_opg rfl rfl rfl (op_gtr rfl rfl ?_)
 refine Rg_op rfl (op_pick_f (v := (Value.bool (decide (8 < r_.slots)))) rfl rfl ?_)
 refine Rg_op rfl (op_move (v := (Value.bool (decide (8 < r_.slots)))) rfl ?_)
 refine Rg_case (fun hg295 => ?_) (fun hg295 => ?_)
 replace hm := bif_t hm hg295
 iterate 6 refine Rg_opx rfl (asB_ne rfl rfl) rfl ?_
 refine Rg_op rfl (op_pick_t (v := (Value.bool true)) rfl rfl ?_)
 refine Rg_op rfl (op_move (v := (Value.bool true)) rfl ?_)
 iterate 7 refine Rg_opx rfl (asB_ne rfl rfl) rfl ?_
 refine Rg_op rfl (op_pick_t (v := (Value.bool true)) rfl rfl ?_)
 refine Rg_nil ?_
 exact hK10 _ _ ⟨true, _, rfl, ⟨(by repeat (first | with_reducible exact Out.refl _ _ | refine Out.upd ?_ rfl | refine Out.updL ?_ rfl | refine Out.mix' ?_ rfl | exact Out.refl _ _)), rfl, rfl, trivial⟩, ch293, hs4, hm⟩
 replace hm := bif_f hm hg295
 refine Rg_opg rfl rfl rfl (op_fieldAddr ty25 rfl ty22 (by decide) rfl (rfl : _ = (⟨_, 1, none⟩ : Addr)) ?_)
 refine Rg_opg rfl rfl rfl (op_load (cs := [(Value.int .i64 r_.slots), (Value.slice Aa r_.owners.length Ca), (Value.slice Ab r_.costs.length Cb)]) (i := 0) ty22 hs4 rfl rfl rfl ?_)
 refine Rg_opg rfl rfl rfl (op_len Try.underlying22 rfl ?_)
 have rl296 := inK_len Fa
 refine Rg_opg rfl rfl rfl (op_fieldAddr ty25 rfl ty3 (by decide) rfl (rfl : _ = (⟨_, 0, none⟩ : Addr)) ?_)
 refine Rg_opg rfl rfl rfl (op_load (cs := [(Value.int .i64 r_.slots), (Value.slice Aa r_.owners.length Ca), (Value.slice Ab r_.costs.length Cb)]) (i := 0) ty3 hs4 rfl rfl rfl ?_)
 refine Rg_opg rfl rfl rfl (op_gtr rfl rfl ?_)
 refine Rg_op rfl (op_pick_f (v := (Value.bool (decide (r_.slots < (r_.owners.length : Int))))) rfl rfl ?_)
 refine Rg_op rfl (op_move (v := (Value.bool (decide (r_.slots < (r_.owners.length : Int))))) rfl ?_)
 refine Rg_case (fun hg297 => ?_) (fun hg297 => ?_)
 replace hm := bif_t hm hg297
 iterate 7 refine Rg_opx rfl (asB_ne rfl rfl) rfl ?_
 refine Rg_op rfl (op_pick_t (v := (Value.bool true)) rfl rfl ?_)
 refine Rg_nil ?_
 exact hK10 _ _ ⟨true, _, rfl, ⟨(by repeat (first | with_reducible exact Out.refl _ _ | refine Out.upd ?_ rfl | refine Out.updL ?_ rfl | refine Out.mix' ?_ rfl | exact Out.refl _ _)), rfl, rfl, trivial⟩, ch293, hs4, hm⟩
 replace hm := bif_f hm hg297
 refine Rg_opg rfl rfl rfl (op_fieldAddr ty25 rfl ty23 (by decide) rfl (rfl : _ = (⟨_, 2, none⟩ : Addr)) ?_)
 refine Rg_opg rfl rfl rfl (op_load (cs := [(Value.int .i64 r_.slots), (Value.slice Aa r_.owners.length Ca), (Value.slice Ab r_.costs.length Cb)]) (i := 0) ty23 hs4 rfl rfl rfl ?_)
 refine Rg_opg rfl rfl rfl (op_len Try.underlying23 rfl ?_)
 have rl298 := inK_len Fb
 refine Rg_opg rfl rfl rfl (op_fieldAddr ty25 rfl ty22 (by decide) rfl (rfl : _ = (⟨_, 1, none⟩ : Addr)) ?_)
 refine Rg_opg rfl rfl rfl (op_load (cs := [(Value.int .i64 r_.slots), (Value.slice Aa r_.owners.length Ca), (Value.slice Ab r_.costs.length Cb)]) (i := 0) ty22 hs4 rfl rfl rfl ?_)
 refine Rg_opg rfl rfl rfl (op_len Try.underlying22 rfl ?_)
 have rl299 := inK_len Fa
 refine Rg_opg rfl rfl rfl (op_neq rfl rfl ?_)
 refine Rg_op rfl (op_pick_f (v := (Value.bool (decide ((r_.costs.length : Int) ≠ (r_.owners.length : Int))))) rfl rfl ?_)
 refine Rg_nil ?_
 exact hK10 _ _ ⟨(decide ((r_.costs.length : Int) ≠ (r_.owners.length : Int))), _, rfl, ⟨(by repeat (first | with_reducible exact Out.refl _ _ | refine Out.upd ?_ rfl | refine Out.updL ?_ rfl | refine Out.mix' ?_ rfl | exact Out.refl _ _)), rfl, rfl, trivial⟩, ch293, hs4, hm⟩

def m29_overflightref37_Few_B0 (r_ : XRound) (sf21 : Int → Option Bool) (i_1 : Int) : Option Bool :=
 bif (decide (i_1 < (r_.costs.length : Int))) then
  ck ((0 : Int) ≤ i_1 ∧ i_1 < (r_.costs.length : Int)) <|
  bif (decide (20 < ((r_.costs.getD i_1.toNat default).length : Int))) then
   some false
  else
   sf21 (IntKind.wrap .i64 (i_1 + 1))
 else
  (m54_overflightref37_Valid r_).bind fun valid_1 =>
  bif (!valid_1) then
   some true
  else
   some (decide ((r_.owners.length : Int) ≤ 5))

def m29_overflightref37_Few (r_ : XRound) : Option Bool :=
 jn (fun (v_1 : Bool) =>
  bif v_1 then
   some false
  else
   loop1 (m29_overflightref37_Few_B0 r_) (((r_.costs.length : Int) - 0).toNat + 1) 0)
 (fun k8 =>
  bif (decide (12 < (r_.owners.length : Int))) then
   k8 true
  else
   k8 (decide (12 < (r_.costs.length : Int))))

theorem c29_overflightref37_Few {w : World} {O : List Nat} {r_ : XRound} {Aa : Option Addr} {Ca : Nat} {Ab : Option Addr} {Cb : Nat} (hO : ∀ k ∈ O, k < w.heap.size) (Ra : InK .i64 r_.slots) (Fa : SlR (rInt .i64) w O Aa Ca r_.owners) (Fb : SlR (rSl (rInt .i64)) w O Ab Cb r_.costs) {x : Bool} (hm : m29_overflightref37_Few r_ = some x) :
 Ok Try.prog 29 [(Value.agg [(Value.int .i64 r_.slots), (Value.slice Aa r_.owners.length Ca), (Value.slice Ab r_.costs.length Cb)].toArray)] w O vB x := by
 unfold m29_overflightref37_Few at hm
 refine Fn_of_Wp (n := 37) (xs := [.tmp 2]) Try.func29 rfl Try.ntmps29 Try.results29 rfl ?_
 have hs := St.start hO
 refine Wp_seq (Wp_region ?_)
 refine Rg_op rfl (op_box (cs := [(Value.int .i64 r_.slots), (Value.slice Aa r_.owners.length Ca), (Value.slice Ab r_.costs.length Cb)]) hs rfl rfl ?_)
 intro b1 w2 _ p3 hs4
 replace Fa := Fa.step p3; replace Fb := Fb.step p3; clear p3
 refine Rg_op rfl (op_assign (v := (Value.bool false)) rfl ?_)
 refine Rg_nil (Wp_seq ?_)
 refine Wp_reset [] [(1, (Value.pointer (some ⟨b1, 0, none⟩)))] rfl ⟨rfl, trivial⟩ fun ξ6 => ?_
 replace hm := jn_elim hm; obtain ⟨k8, hk9, hm⟩ := hm
 refine Wp_seqJ [4, 5, 6, 7, 8, 9, 10, 11, 12, 13] (fun fr w' => ∃ (v_1 : Bool) (Ebs : Ents), Ebs = [(some b1, Obj.cells [(Value.int .i64 r_.slots), (Value.slice Aa r_.owners.length Ca), (Value.slice Ab r_.costs.length Cb)].toArray 25)] ∧ fr [] [(13, (Value.bool v_1))] ∧ Step (ks [(some b1, Obj.cells [(Value.int .i64 r_.slots), (Value.slice Aa r_.owners.length Ca), (Value.slice Ab r_.costs.length Cb)].toArray 25)] O) w2 (ks Ebs O) w' ∧ St ⟨w, [], []⟩ O w' Ebs ∧ k8 v_1 = some x) ?_ ?_
 rintro ρ15 w11 ⟨v_1, Ebs, hEbs, hfr14, hst13, hs12, hm⟩
 replace hm := jnE1 hk9 hm
 subst hEbs; rw [hfr14.eq]; clear hfr14
 replace Fa := Fa.step hst13; replace Fb := Fb.step hst13; clear hst13 hs4
 refine Wp_cond rfl (fun hc16 => ?_) (fun hc16 => ?_)
 replace hm := bif_t hm hc16
 refine Wp_seq ?_
 obtain ⟨hs17, p18⟩ := hs12.sub (bs' := []) (.cons _ List.Sublist.slnil)
 clear Fa Fb
 clear p18 hs12
 refine Wp_region ?_
 refine Rg_op rfl (op_assign (v := (Value.bool false)) rfl ?_)
 refine Rg_nil ?_
 refine Wp_ret ?_
 have hz := step_all hs17
 refine ⟨_, (show Closes [] _ _ from rfl), [(Value.bool false)], ⟨rfl, trivial⟩, hs17.ext, ?_⟩
 exact Vr.eq (a := vB) (x := false) rfl (Option.some.inj hm)
 replace hm := bif_f hm hc16
 refine Wp_skip (Wp_seq (Wp_seq (Wp_region ?_)))
 refine Rg_op rfl (op_assign (v := (Value.int .i64 0)) rfl ?_)
 refine Rg_nil (Wp_block ?_)
 refine Wp_reset [] [(1, (Value.pointer (some ⟨b1, 0, none⟩))), (3, (Value.int .i64 0))] rfl ⟨rfl, rfl, trivial⟩ fun ξ20 => ?_
 refine Wp_loopM [2, 3, 14, 15, 16, 17, 18, 19, 20, 21, 22, 23, 24, 25, 26, 27] (fun m fr w' => ∃ (i_1 : Int) (Ebs : Ents), Ebs = [(some b1, Obj.cells [(Value.int .i64 r_.slots), (Value.slice Aa r_.owners.length Ca), (Value.slice Ab r_.costs.length Cb)].toArray 25)] ∧ fr [] [(3, (Value.int .i64 i_1))] ∧ Step (ks [(some b1, Obj.cells [(Value.int .i64 r_.slots), (Value.slice Aa r_.owners.length Ca), (Value.slice Ab r_.costs.length Cb)].toArray 25)] O) w11 (ks Ebs O) w' ∧ St ⟨w, [], []⟩ O w' Ebs ∧ InK .i64 i_1 ∧ loop1 (m29_overflightref37_Few_B0 r_) m i_1 = some x) (((r_.costs.length : Int) - 0).toNat + 1) ⟨0, _, rfl, ⟨Out.refl _ _, rfl, rfl, trivial⟩, Step.refl _ _, hs12, (show InK .i64 0 from by decide), hm⟩ ?_ ?_
 rintro _ _ ⟨_, _, _, _, _, _, _, hm⟩; exact loop1_z hm
 rintro m24 K23 hK23 ρ29 w25 ⟨i_1, Ebs, hEbs, hfr28, hst27, hs26, Rb, hm⟩
 obtain ⟨sf21, hsf22, hm⟩ := loop1_s hm; unfold m29_overflightref37_Few_B0 at hm
 subst hEbs; rw [hfr28.eq]; clear hfr28
 replace Fa := Fa.step hst27; replace Fb := Fb.step hst27
 have ch30 := hst27
 refine Wp_seq (Wp_seq (Wp_region ?_))
 refine Rg_op rfl (op_move (v := (Value.int .i64 i_1)) rfl ?_)
 refine Rg_op rfl (op_fieldAddr ty25 rfl ty23 (by decide) rfl (rfl : _ = (⟨_, 2, none⟩ : Addr)) ?_)
 refine Rg_op rfl (op_load (cs := [(Value.int .i64 r_.slots), (Value.slice Aa r_.owners.length Ca), (Value.slice Ab r_.costs.length Cb)]) (i := 0) ty23 hs26 rfl rfl rfl ?_)
 refine Rg_op rfl (op_len Try.underlying23 rfl ?_)
 have rl31 := inK_len Fb
 refine Rg_op rfl (op_lss rfl rfl ?_)
 refine Rg_nil ?_
 refine Wp_cond rfl (fun hc32 => ?_) (fun hc32 => ?_)
 replace hm := bif_t hm hc32
 refine Wp_skip (Wp_seq (Wp_block (Wp_seq (Wp_region ?_))))
 refine Rg_op rfl (op_fieldAddr ty25 rfl ty23 (by decide) rfl (rfl : _ = (⟨_, 2, none⟩ : Addr)) ?_)
 refine Rg_op rfl (op_load (cs := [(Value.int .i64 r_.slots), (Value.slice Aa r_.owners.length Ca), (Value.slice Ab r_.costs.length Cb)]) (i := 0) ty23 hs26 rfl rfl rfl ?_)
 refine Rg_op rfl (op_move (v := (Value.int .i64 i_1)) rfl ?_)
 replace hm := ck_some hm; obtain ⟨hc33, hm⟩ := hm
 refine Rg_op rfl (op_indexAddr (q := (rSl (rInt .i64))) ty23 ty22 rfl rfl Fb rfl hc33.1 hc33.2 ?_)
 intro p34 f35
 refine Rg_op rfl (op_loadP ty22 rfl f35 rfl ?_)
 intro v36 h37
 obtain ⟨Ac, Cc, rfl, Fc⟩ := un_sl h37
 refine Rg_op rfl (op_len Try.underlying22 rfl ?_)
 have rl39 := inK_len Fc
 refine Rg_op rfl (op_gtr rfl rfl ?_)
 refine Rg_nil ?_
 refine Wp_cond rfl (fun hc40 => ?_) (fun hc40 => ?_)
 replace hm := bif_t hm hc40
 refine Wp_seq ?_
 clear f35 Fc
 refine Wp_region ?_
 refine Rg_op rfl (op_assign (v := (Value.bool false)) rfl ?_)
 refine Rg_nil ?_
 refine Wp_ret ?_
 have hz := step_all hs26
 replace Fa := Fa.step hz; replace Fb := Fb.step hz
 refine ⟨_, (show Closes [] _ _ from rfl), [(Value.bool false)], ⟨rfl, trivial⟩, hs26.ext, ?_⟩
 exact Vr.eq (a := vB) (x := false) rfl (Option.some.inj hm)
 replace hm := bif_f hm hc40
 refine Wp_skip ?_
 clear f35 Fc
 refine Wp_region ?_
 refine Rg_op rfl (op_move (v := (Value.int .i64 i_1)) rfl ?_)
 refine Rg_op rfl (op_addw rfl rfl ?_)
 refine Rg_op rfl (op_assign (v := (Value.int .i64 (IntKind.wrap .i64 (i_1 + 1)))) rfl ?_)
 refine Rg_nil ?_
 exact hK23 _ _ ⟨(IntKind.wrap .i64 (i_1 + 1)), _, rfl, ⟨(by repeat (first | with_reducible exact Out.refl _ _ | refine Out.upd ?_ rfl | refine Out.updL ?_ rfl | refine Out.mix' ?_ rfl | exact Out.refl _ _)), rfl, rfl, trivial⟩, ch30, hs26, (inK_wrap .i64 _), jnE1 hsf22 hm⟩
 replace hm := bif_f hm hc32
 refine Wp_exit (Wp_seq (Wp_region ?_))
 refine Rg_op rfl (op_loadA (cs := [(Value.int .i64 r_.slots), (Value.slice Aa r_.owners.length Ca), (Value.slice Ab r_.costs.length Cb)]) (vs := [(Value.int .i64 r_.slots), (Value.slice Aa r_.owners.length Ca), (Value.slice Ab r_.costs.length Cb)]) (i := 0) ty25 hs26 rfl rfl rfl rfl ?_)
 replace hm := bd hm; obtain ⟨valid_1, hv41, hm⟩ := hm
 refine Rg_op rfl (op_call Try.call54 (c54_overflightref37_Valid (r_ := r_) hs26.ltw Ra Fa Fb hv41) rfl ?_)
 rintro v42 w43 ⟨hx44, h45⟩
 have hs46 := hs26.call hx44
 have p47 := Step.ext (O := ks [(some b1, Obj.cells [(Value.int .i64 r_.slots), (Value.slice Aa r_.owners.length Ca), (Value.slice Ab r_.costs.length Cb)].toArray 25)] O) hx44
 clear hx44
 replace Fa := Fa.step p47; replace Fb := Fb.step p47; replace ch30 := ch30.trans p47; clear p47 hs26
 obtain rfl := h45
 refine Rg_op rfl (op_not rfl ?_)
 refine Rg_op rfl (op_move (v := (Value.bool (!valid_1))) rfl ?_)
 refine Rg_case (fun hg49 => ?_) (fun hg49 => ?_)
 replace hm := bif_t hm hg49
 iterate 4 refine Rg_opx rfl (asB_ne rfl rfl) rfl ?_
 refine Rg_op rfl (op_pick_t (v := (Value.bool true)) rfl rfl ?_)
 refine Rg_op rfl (op_assign (v := (Value.bool true)) rfl ?_)
 refine Rg_nil ?_
 refine Wp_ret ?_
 have hz := step_all hs46
 replace Fa := Fa.step hz; replace Fb := Fb.step hz
 refine ⟨_, (show Closes [] _ _ from rfl), [(Value.bool true)], ⟨rfl, trivial⟩, hs46.ext, ?_⟩
 exact Vr.eq (a := vB) (x := true) rfl (Option.some.inj hm)
 replace hm := bif_f hm hg49
 refine Rg_opg rfl rfl rfl (op_fieldAddr ty25 rfl ty22 (by decide) rfl (rfl : _ = (⟨_, 1, none⟩ : Addr)) ?_)
 refine Rg_opg rfl rfl rfl (op_load (cs := [(Value.int .i64 r_.slots), (Value.slice Aa r_.owners.length Ca), (Value.slice Ab r_.costs.length Cb)]) (i := 0) ty22 hs46 rfl rfl rfl ?_)
 refine Rg_opg rfl rfl rfl (op_len Try.underlying22 rfl ?_)
 have rl50 := inK_len Fa
 refine Rg_opg rfl rfl rfl (op_leq rfl rfl ?_)
 refine Rg_op rfl (op_pick_f (v := (Value.bool (decide ((r_.owners.length : Int) ≤ 5)))) rfl rfl ?_)
 refine Rg_op rfl (op_assign (v := (Value.bool (decide ((r_.owners.length : Int) ≤ 5)))) rfl ?_)
 refine Rg_nil ?_
 refine Wp_ret ?_
 have hz := step_all hs46
 replace Fa := Fa.step hz; replace Fb := Fb.step hz
 refine ⟨_, (show Closes [] _ _ from rfl), [(Value.bool (decide ((r_.owners.length : Int) ≤ 5)))], ⟨rfl, trivial⟩, hs46.ext, ?_⟩
 exact Vr.eq (a := vB) (x := (decide ((r_.owners.length : Int) ≤ 5))) rfl (Option.some.inj hm)
 intro K10 hK10
 have ch51 := Step.refl (ks [(some b1, Obj.cells [(Value.int .i64 r_.slots), (Value.slice Aa r_.owners.length Ca), (Value.slice Ab r_.costs.length Cb)].toArray 25)] O) w2
 refine Wp_region ?_
 refine Rg_op rfl (op_fieldAddr ty25 rfl ty22 (by decide) rfl (rfl : _ = (⟨_, 1, none⟩ : Addr)) ?_)
 refine Rg_op rfl (op_load (cs := [(Value.int .i64 r_.slots), (Value.slice Aa r_.owners.length Ca), (Value.slice Ab r_.costs.length Cb)]) (i := 0) ty22 hs4 rfl rfl rfl ?_)
 refine Rg_op rfl (op_len Try.underlying22 rfl ?_)
 have rl52 := inK_len Fa
 refine Rg_op rfl (op_gtr rfl rfl ?_)
 refine Rg_op rfl (op_move (v := (Value.bool (decide (12 < (r_.owners.length : Int))))) rfl ?_)
 refine Rg_case (fun hg53 => ?_) (fun hg53 => ?_)
 replace hm := bif_t hm hg53
 iterate 4 refine Rg_opx rfl (asB_ne rfl rfl) rfl ?_
 refine Rg_op rfl (op_pick_t (v := (Value.bool true)) rfl rfl ?_)
 refine Rg_nil ?_
 exact hK10 _ _ ⟨true, _, rfl, ⟨(by repeat (first | with_reducible exact Out.refl _ _ | refine Out.upd ?_ rfl | refine Out.updL ?_ rfl | refine Out.mix' ?_ rfl | exact Out.refl _ _)), rfl, rfl, trivial⟩, ch51, hs4, hm⟩
 replace hm := bif_f hm hg53
 refine Rg_opg rfl rfl rfl (op_fieldAddr ty25 rfl ty23 (by decide) rfl (rfl : _ = (⟨_, 2, none⟩ : Addr)) ?_)
 refine Rg_opg rfl rfl rfl (op_load (cs := [(Value.int .i64 r_.slots), (Value.slice Aa r_.owners.length Ca), (Value.slice Ab r_.costs.length Cb)]) (i := 0) ty23 hs4 rfl rfl rfl ?_)
 refine Rg_opg rfl rfl rfl (op_len Try.underlying23 rfl ?_)
 have rl54 := inK_len Fb
 refine Rg_opg rfl rfl rfl (op_gtr rfl rfl ?_)
 refine Rg_op rfl (op_pick_f (v := (Value.bool (decide (12 < (r_.costs.length : Int))))) rfl rfl ?_)
 refine Rg_nil ?_
 exact hK10 _ _ ⟨(decide (12 < (r_.costs.length : Int))), _, rfl, ⟨(by repeat (first | with_reducible exact Out.refl _ _ | refine Out.upd ?_ rfl | refine Out.updL ?_ rfl | refine Out.mix' ?_ rfl | exact Out.refl _ _)), rfl, rfl, trivial⟩, ch51, hs4, hm⟩

def m11_overflightref38_Few (r_ : XRound) : Option Bool :=
 (m29_overflightref37_Few r_).bind fun few_1 =>
 bif few_1 then
  bif (decide ((r_.owners.length : Int) ≤ 5)) then
   some (decide (r_.slots ≤ 6))
  else
   some false
 else
  some false

theorem c11_overflightref38_Few {w : World} {O : List Nat} {r_ : XRound} {Aa : Option Addr} {Ca : Nat} {Ab : Option Addr} {Cb : Nat} (hO : ∀ k ∈ O, k < w.heap.size) (Ra : InK .i64 r_.slots) (Fa : SlR (rInt .i64) w O Aa Ca r_.owners) (Fb : SlR (rSl (rInt .i64)) w O Ab Cb r_.costs) {x : Bool} (hm : m11_overflightref38_Few r_ = some x) :
 Ok Try.prog 11 [(Value.agg [(Value.int .i64 r_.slots), (Value.slice Aa r_.owners.length Ca), (Value.slice Ab r_.costs.length Cb)].toArray)] w O vB x := by
 unfold m11_overflightref38_Few at hm
 refine Fn_of_Wp (n := 16) (xs := [.tmp 2]) Try.func11 rfl Try.ntmps11 Try.results11 rfl ?_
 have hs := St.start hO
 refine Wp_seq (Wp_region ?_)
 refine Rg_op rfl (op_box (cs := [(Value.int .i64 r_.slots), (Value.slice Aa r_.owners.length Ca), (Value.slice Ab r_.costs.length Cb)]) hs rfl rfl ?_)
 intro b1 w2 _ p3 hs4
 replace Fa := Fa.step p3; replace Fb := Fb.step p3; clear p3
 refine Rg_op rfl (op_assign (v := (Value.bool false)) rfl ?_)
 refine Rg_nil (Wp_seq (Wp_region ?_))
 refine Rg_op rfl (op_loadA (cs := [(Value.int .i64 r_.slots), (Value.slice Aa r_.owners.length Ca), (Value.slice Ab r_.costs.length Cb)]) (vs := [(Value.int .i64 r_.slots), (Value.slice Aa r_.owners.length Ca), (Value.slice Ab r_.costs.length Cb)]) (i := 0) ty25 hs4 rfl rfl rfl rfl ?_)
 replace hm := bd hm; obtain ⟨few_1, hv6, hm⟩ := hm
 refine Rg_op rfl (op_call Try.call29 (c29_overflightref37_Few (r_ := r_) hs4.ltw Ra Fa Fb hv6) rfl ?_)
 rintro v7 w8 ⟨hx9, h10⟩
 have hs11 := hs4.call hx9
 have p12 := Step.ext (O := ks [(some b1, Obj.cells [(Value.int .i64 r_.slots), (Value.slice Aa r_.owners.length Ca), (Value.slice Ab r_.costs.length Cb)].toArray 25)] O) hx9
 clear hx9
 replace Fa := Fa.step p12; replace Fb := Fb.step p12; clear p12 hs4
 obtain rfl := h10
 refine Rg_op rfl (op_move (v := (Value.bool few_1)) rfl ?_)
 refine Rg_case (fun hg14 => ?_) (fun hg14 => ?_)
 replace hm := bif_t hm hg14
 refine Rg_opg rfl rfl rfl (op_fieldAddr ty25 rfl ty22 (by decide) rfl (rfl : _ = (⟨_, 1, none⟩ : Addr)) ?_)
 refine Rg_opg rfl rfl rfl (op_load (cs := [(Value.int .i64 r_.slots), (Value.slice Aa r_.owners.length Ca), (Value.slice Ab r_.costs.length Cb)]) (i := 0) ty22 hs11 rfl rfl rfl ?_)
 refine Rg_opg rfl rfl rfl (op_len Try.underlying22 rfl ?_)
 have rl15 := inK_len Fa
 refine Rg_opg rfl rfl rfl (op_leq rfl rfl ?_)
 refine Rg_op rfl (op_pick_t (v := (Value.bool (decide ((r_.owners.length : Int) ≤ 5)))) rfl rfl ?_)
 refine Rg_op rfl (op_move (v := (Value.bool (decide ((r_.owners.length : Int) ≤ 5)))) rfl ?_)
 refine Rg_case (fun hg16 => ?_) (fun hg16 => ?_)
 replace hm := bif_t hm hg16
 refine Rg_opg rfl rfl rfl (op_fieldAddr ty25 rfl ty3 (by decide) rfl (rfl : _ = (⟨_, 0, none⟩ : Addr)) ?_)
 refine Rg_opg rfl rfl rfl (op_load (cs := [(Value.int .i64 r_.slots), (Value.slice Aa r_.owners.length Ca), (Value.slice Ab r_.costs.length Cb)]) (i := 0) ty3 hs11 rfl rfl rfl ?_)
 refine Rg_opg rfl rfl rfl (op_leq rfl rfl ?_)
 refine Rg_op rfl (op_pick_t (v := (Value.bool (decide (r_.slots ≤ 6)))) rfl rfl ?_)
 refine Rg_op rfl (op_assign (v := (Value.bool (decide (r_.slots ≤ 6)))) rfl ?_)
 refine Rg_nil ?_
 refine Wp_ret ?_
 have hz := step_all hs11
 replace Fa := Fa.step hz; replace Fb := Fb.step hz
 refine ⟨_, (show Closes [] _ _ from rfl), [(Value.bool (decide (r_.slots ≤ 6)))], ⟨rfl, trivial⟩, hs11.ext, ?_⟩
 exact Vr.eq (a := vB) (x := (decide (r_.slots ≤ 6))) rfl (Option.some.inj hm)
 replace hm := bif_f hm hg16
 iterate 3 refine Rg_opx rfl (asB_ne rfl rfl) rfl ?_
 refine Rg_op rfl (op_pick_f (v := (Value.bool false)) rfl rfl ?_)
 refine Rg_op rfl (op_assign (v := (Value.bool false)) rfl ?_)
 refine Rg_nil ?_
 refine Wp_ret ?_
 have hz := step_all hs11
 replace Fa := Fa.step hz; replace Fb := Fb.step hz
 refine ⟨_, (show Closes [] _ _ from rfl), [(Value.bool false)], ⟨rfl, trivial⟩, hs11.ext, ?_⟩
 exact Vr.eq (a := vB) (x := false) rfl (Option.some.inj hm)
 replace hm := bif_f hm hg14
 iterate 4 refine Rg_opx rfl (asB_ne rfl rfl) rfl ?_
 refine Rg_op rfl (op_pick_f (v := (Value.bool false)) rfl rfl ?_)
 refine Rg_op rfl (op_move (v := (Value.bool false)) rfl ?_)
 iterate 3 refine Rg_opx rfl (asB_ne rfl rfl) rfl ?_
 refine Rg_op rfl (op_pick_f (v := (Value.bool false)) rfl rfl ?_)
 refine Rg_op rfl (op_assign (v := (Value.bool false)) rfl ?_)
 refine Rg_nil ?_
 refine Wp_ret ?_
 have hz := step_all hs11
 replace Fa := Fa.step hz; replace Fb := Fb.step hz
 refine ⟨_, (show Closes [] _ _ from rfl), [(Value.bool false)], ⟨rfl, trivial⟩, hs11.ext, ?_⟩
 exact Vr.eq (a := vB) (x := false) rfl (Option.some.inj hm)

def m7_overflightlaw38_ClearingMoves_B2 (slots : List Int) (cycles_1 : (List (List Int)) × Int) (last_1 : Int) (v_2 : Int) (k72 : Int → (List (Int × Bool)) → Option Bool) (least_1 : Int) (map_3 : List (Int × Bool)) (sf453 : Int → Option Bool) (v_5 : Int) : Option Bool :=
 bif (decide (v_5 < (slots.length : Int))) then
  ck ((0 : Int) ≤ v_5 ∧ v_5 < (slots.length : Int)) <|
  bif (decide ((slots.getD v_5.toNat default) = ((cycles_1.1.getD v_2.toNat default).getD (IntKind.wrap .i64 (((cycles_1.1.getD v_2.toNat default).length : Int) - 1)).toNat default))) then
   some false
  else
   sf453 (IntKind.wrap .i64 (v_5 + 1))
 else
  bif (decide (least_1 ≤ last_1)) then
   some false
  else
   k72 least_1 map_3

def m7_overflightlaw38_ClearingMoves_B1 (slots : List Int) (cycles_1 : (List (List Int)) × Int) (last_1 : Int) (v_2 : Int) (k72 : Int → (List (Int × Bool)) → Option Bool) (sf100 : Int → Int → (List (Int × Bool)) → Option Bool) (least_1 : Int) (v_3 : Int) (map_3 : List (Int × Bool)) : Option Bool :=
 bif (decide (v_3 < ((cycles_1.1.getD v_2.toNat default).length : Int))) then
  ck ((0 : Int) ≤ v_3 ∧ v_3 < ((cycles_1.1.getD v_2.toNat default).length : Int)) <|
  jn (fun (v_4 : Bool) =>
   bif v_4 then
    some false
   else
    sf100 (min least_1 ((cycles_1.1.getD v_2.toNat default).getD v_3.toNat default)) (IntKind.wrap .i64 (v_3 + 1)) (mput map_3 ((cycles_1.1.getD v_2.toNat default).getD v_3.toNat default) true))
  (fun k119 =>
   bif (decide (((cycles_1.1.getD v_2.toNat default).getD v_3.toNat default) < 0)) then
    k119 true
   else
    bif (decide ((slots.length : Int) ≤ ((cycles_1.1.getD v_2.toNat default).getD v_3.toNat default))) then
     k119 true
    else
     bif ((mget map_3 ((cycles_1.1.getD v_2.toNat default).getD v_3.toNat default)).getD false) then
      k119 true
     else
      ck ((0 : Int) ≤ ((cycles_1.1.getD v_2.toNat default).getD v_3.toNat default) ∧ ((cycles_1.1.getD v_2.toNat default).getD v_3.toNat default) < (slots.length : Int)) <|
      bif (decide ((slots.getD ((cycles_1.1.getD v_2.toNat default).getD v_3.toNat default).toNat default) = ((cycles_1.1.getD v_2.toNat default).getD v_3.toNat default))) then
       k119 true
      else
       bif (decide (0 < v_3)) then
        ck ((0 : Int) ≤ ((cycles_1.1.getD v_2.toNat default).getD v_3.toNat default) ∧ ((cycles_1.1.getD v_2.toNat default).getD v_3.toNat default) < (slots.length : Int)) <|
        ck ((0 : Int) ≤ (IntKind.wrap .i64 (v_3 - 1)) ∧ (IntKind.wrap .i64 (v_3 - 1)) < ((cycles_1.1.getD v_2.toNat default).length : Int)) <|
        k119 (decide ((slots.getD ((cycles_1.1.getD v_2.toNat default).getD v_3.toNat default).toNat default) ≠ ((cycles_1.1.getD v_2.toNat default).getD (IntKind.wrap .i64 (v_3 - 1)).toNat default)))
       else
        k119 false)
 else
  ck ((0 : Int) ≤ (IntKind.wrap .i64 (((cycles_1.1.getD v_2.toNat default).length : Int) - 1)) ∧ (IntKind.wrap .i64 (((cycles_1.1.getD v_2.toNat default).length : Int) - 1)) < ((cycles_1.1.getD v_2.toNat default).length : Int)) <|
  ck ((0 : Int) ≤ 0 ∧ 0 < ((cycles_1.1.getD v_2.toNat default).length : Int)) <|
  ck ((0 : Int) ≤ ((cycles_1.1.getD v_2.toNat default).getD 0 default) ∧ ((cycles_1.1.getD v_2.toNat default).getD 0 default) < (slots.length : Int)) <|
  bif (decide ((slots.getD ((cycles_1.1.getD v_2.toNat default).getD 0 default).toNat default) = ((cycles_1.1.getD v_2.toNat default).getD (IntKind.wrap .i64 (((cycles_1.1.getD v_2.toNat default).length : Int) - 1)).toNat default))) then
   ck ((0 : Int) ≤ 0 ∧ 0 < ((cycles_1.1.getD v_2.toNat default).length : Int)) <|
   bif (decide (((cycles_1.1.getD v_2.toNat default).getD 0 default) ≠ least_1)) then
    some false
   else
    bif (decide (least_1 ≤ last_1)) then
     some false
    else
     k72 least_1 map_3
  else
   ck ((0 : Int) ≤ 0 ∧ 0 < ((cycles_1.1.getD v_2.toNat default).length : Int)) <|
   ck ((0 : Int) ≤ ((cycles_1.1.getD v_2.toNat default).getD 0 default) ∧ ((cycles_1.1.getD v_2.toNat default).getD 0 default) < (slots.length : Int)) <|
   bif (decide ((slots.getD ((cycles_1.1.getD v_2.toNat default).getD 0 default).toNat default) < (slots.length : Int))) then
    some false
   else
    loop1 (m7_overflightlaw38_ClearingMoves_B2 slots cycles_1 last_1 v_2 k72 least_1 map_3) (((slots.length : Int) - 0).toNat + 1) 0

def m7_overflightlaw38_ClearingMoves_B3 (slots : List Int) (map_1 : List (Int × Bool)) (sf475 : Int → Option Bool) (v_6 : Int) : Option Bool :=
 bif (decide (v_6 < (slots.length : Int))) then
  ck ((0 : Int) ≤ v_6 ∧ v_6 < (slots.length : Int)) <|
  bif (!(((mget map_1 v_6).getD false) == (decide ((slots.getD v_6.toNat default) ≠ v_6)))) then
   some false
  else
   sf475 (IntKind.wrap .i64 (v_6 + 1))
 else
  some true

def m7_overflightlaw38_ClearingMoves_B0 (slots : List Int) (cycles_1 : (List (List Int)) × Int) (sf58 : Int → Int → (List (Int × Bool)) → Option Bool) (last_1 : Int) (v_2 : Int) (map_1 : List (Int × Bool)) : Option Bool :=
 bif (decide (v_2 < (cycles_1.1.length : Int))) then
  jn (fun (last_2 : Int) (map_2 : List (Int × Bool)) =>
   sf58 last_2 (IntKind.wrap .i64 (v_2 + 1)) map_2)
  (fun k72 =>
   ck ((0 : Int) ≤ v_2 ∧ v_2 < (cycles_1.1.length : Int)) <|
   bif (decide (((cycles_1.1.getD v_2.toNat default).length : Int) = 0)) then
    some false
   else
    ck ((0 : Int) ≤ 0 ∧ 0 < ((cycles_1.1.getD v_2.toNat default).length : Int)) <|
    loop3 (m7_overflightlaw38_ClearingMoves_B1 slots cycles_1 last_1 v_2 k72) ((((cycles_1.1.getD v_2.toNat default).length : Int) - 0).toNat + 1) ((cycles_1.1.getD v_2.toNat default).getD 0 default) 0 map_1)
 else
  loop1 (m7_overflightlaw38_ClearingMoves_B3 slots map_1) (((slots.length : Int) - 0).toNat + 1) 0

def m7_overflightlaw38_ClearingMoves (r_ : XRound) (slots : List Int) : Option Bool :=
 (m10_overflightlaw38_sane).bind fun sane_1 =>
 bif (!sane_1) then
  some false
 else
  jn (fun (v_1 : Bool) =>
   bif v_1 then
    some true
   else
    (m14_clearing_Cycles r_ slots).bind fun cycles_1 =>
    bif (decide (cycles_1.2 ≠ 0)) then
     some (decide ((cycles_1.1.length : Int) = 0))
    else
     loop3 (m7_overflightlaw38_ClearingMoves_B0 slots cycles_1) (((cycles_1.1.length : Int) - 0).toNat + 1) (-1) 0 ([] : List (Int × Bool)))
  (fun k19 =>
   (m11_overflightref38_Few r_).bind fun few_1 =>
   bif (!few_1) then
    k19 true
   else
    k19 (decide (20 < (slots.length : Int))))

theorem c7_overflightlaw38_ClearingMoves {w : World} {O : List Nat} {r_ : XRound} {slots : List Int} {Aa : Option Addr} {Ca : Nat} {Ab : Option Addr} {Cb : Nat} {Ac : Option Addr} {Cc : Nat} (hO : ∀ k ∈ O, k < w.heap.size) (Ra : InK .i64 r_.slots) (Fa : SlR (rInt .i64) w O Aa Ca r_.owners) (Fb : SlR (rSl (rInt .i64)) w O Ab Cb r_.costs) (Fc : SlR (rInt .i64) w O Ac Cc slots) {x : Bool} (hm : m7_overflightlaw38_ClearingMoves r_ slots = some x) :
 Ok Try.prog 7 [(Value.agg [(Value.int .i64 r_.slots), (Value.slice Aa r_.owners.length Ca), (Value.slice Ab r_.costs.length Cb)].toArray), (Value.slice Ac slots.length Cc)] w O vB x := by
 unfold m7_overflightlaw38_ClearingMoves at hm
 refine Fn_of_Wp (n := 161) (xs := [.tmp 4]) Try.func7 rfl Try.ntmps7 Try.results7 rfl ?_
 have hs := St.start hO
 refine Wp_seq (Wp_region ?_)
 refine Rg_op rfl (op_box (cs := [(Value.int .i64 r_.slots), (Value.slice Aa r_.owners.length Ca), (Value.slice Ab r_.costs.length Cb)]) hs rfl rfl ?_)
 intro b1 w2 _ p3 hs4
 replace Fa := Fa.step p3; replace Fb := Fb.step p3; replace Fc := Fc.step p3; clear p3
 refine Rg_op rfl (op_assign (v := (Value.bool false)) rfl ?_)
 refine Rg_nil (Wp_seq (Wp_seq (Wp_region ?_)))
 replace hm := bd hm; obtain ⟨sane_1, hv6, hm⟩ := hm
 refine Rg_op rfl (op_call Try.call10 (c10_overflightlaw38_sane  hs4.ltw  hv6) rfl ?_)
 rintro v7 w8 ⟨hx9, h10⟩
 have hs11 := hs4.call hx9
 have p12 := Step.ext (O := ks [(some b1, Obj.cells [(Value.int .i64 r_.slots), (Value.slice Aa r_.owners.length Ca), (Value.slice Ab r_.costs.length Cb)].toArray 25)] O) hx9
 clear hx9
 replace Fa := Fa.step p12; replace Fb := Fb.step p12; replace Fc := Fc.step p12; clear p12 hs4
 obtain rfl := h10
 refine Rg_op rfl (op_not rfl ?_)
 refine Rg_nil ?_
 refine Wp_cond rfl (fun hc14 => ?_) (fun hc14 => ?_)
 replace hm := bif_t hm hc14
 refine Wp_seq ?_
 obtain ⟨hs15, p16⟩ := hs11.sub (bs' := []) (.cons _ List.Sublist.slnil)
 clear Fa Fb Fc
 clear p16 hs11
 refine Wp_region ?_
 refine Rg_op rfl (op_assign (v := (Value.bool false)) rfl ?_)
 refine Rg_nil ?_
 refine Wp_ret ?_
 have hz := step_all hs15
 refine ⟨_, (show Closes [] _ _ from rfl), [(Value.bool false)], ⟨rfl, trivial⟩, hs15.ext, ?_⟩
 exact Vr.eq (a := vB) (x := false) rfl (Option.some.inj hm)
 replace hm := bif_f hm hc14
 refine Wp_skip (Wp_seq ?_)
 refine Wp_reset [] [(1, (Value.slice Ac slots.length Cc)), (2, (Value.pointer (some ⟨b1, 0, none⟩)))] rfl ⟨rfl, rfl, trivial⟩ fun ξ17 => ?_
 replace hm := jn_elim hm; obtain ⟨k19, hk20, hm⟩ := hm
 refine Wp_seqJ [21, 22, 23, 24, 25, 26, 27, 28] (fun fr w' => ∃ (v_1 : Bool) (Ebs : Ents), Ebs = [(some b1, Obj.cells [(Value.int .i64 r_.slots), (Value.slice Aa r_.owners.length Ca), (Value.slice Ab r_.costs.length Cb)].toArray 25)] ∧ fr [] [(28, (Value.bool v_1))] ∧ Step (ks [(some b1, Obj.cells [(Value.int .i64 r_.slots), (Value.slice Aa r_.owners.length Ca), (Value.slice Ab r_.costs.length Cb)].toArray 25)] O) w8 (ks Ebs O) w' ∧ St ⟨w, [], []⟩ O w' Ebs ∧ k19 v_1 = some x) ?_ ?_
 rintro ρ26 w22 ⟨v_1, Ebs, hEbs, hfr25, hst24, hs23, hm⟩
 replace hm := jnE1 hk20 hm
 subst hEbs; rw [hfr25.eq]; clear hfr25
 replace Fa := Fa.step hst24; replace Fb := Fb.step hst24; replace Fc := Fc.step hst24; clear hst24 hs11
 refine Wp_cond rfl (fun hc27 => ?_) (fun hc27 => ?_)
 replace hm := bif_t hm hc27
 refine Wp_seq ?_
 obtain ⟨hs28, p29⟩ := hs23.sub (bs' := []) (.cons _ List.Sublist.slnil)
 clear Fa Fb Fc
 clear p29 hs23
 refine Wp_region ?_
 refine Rg_op rfl (op_assign (v := (Value.bool true)) rfl ?_)
 refine Rg_nil ?_
 refine Wp_ret ?_
 have hz := step_all hs28
 refine ⟨_, (show Closes [] _ _ from rfl), [(Value.bool true)], ⟨rfl, trivial⟩, hs28.ext, ?_⟩
 exact Vr.eq (a := vB) (x := true) rfl (Option.some.inj hm)
 replace hm := bif_f hm hc27
 refine Wp_skip (Wp_seq (Wp_region ?_))
 refine Rg_op rfl (op_loadA (cs := [(Value.int .i64 r_.slots), (Value.slice Aa r_.owners.length Ca), (Value.slice Ab r_.costs.length Cb)]) (vs := [(Value.int .i64 r_.slots), (Value.slice Aa r_.owners.length Ca), (Value.slice Ab r_.costs.length Cb)]) (i := 0) ty25 hs23 rfl rfl rfl rfl ?_)
 refine Rg_op rfl (op_move (v := (Value.slice Ac slots.length Cc)) rfl ?_)
 replace hm := bd hm; obtain ⟨cycles_1, hv30, hm⟩ := hm
 refine Rg_op rfl (op_call Try.call14 (c14_clearing_Cycles (r_ := r_) (slots := slots) hs23.ltw Ra Fa Fb Fc hv30) rfl ?_)
 rintro v31 w32 ⟨hx33, h34⟩
 have hs35 := hs23.call hx33
 have p36 := Step.ext (O := ks [(some b1, Obj.cells [(Value.int .i64 r_.slots), (Value.slice Aa r_.owners.length Ca), (Value.slice Ab r_.costs.length Cb)].toArray 25)] O) hx33
 clear hx33
 replace Fa := Fa.step p36; replace Fb := Fb.step p36; replace Fc := Fc.step p36; clear p36 hs23
 obtain ⟨v37, v38, rfl, h39, h40⟩ := h34
 obtain ⟨Ad, Cd, rfl, Fd⟩ := un_sl h39
 obtain ⟨rfl, Rb⟩ := h40
 refine Rg_op rfl (op_move (v := (Value.tuple [(Value.slice Ad cycles_1.1.length Cd), (Value.int .i64 cycles_1.2)].toArray)) rfl ?_)
 refine Rg_op rfl (op_extract (v := (Value.slice Ad cycles_1.1.length Cd)) rfl rfl ?_)
 refine Rg_op rfl (op_extract (v := (Value.int .i64 cycles_1.2)) rfl rfl ?_)
 refine Rg_op rfl (op_assign (v := (Value.slice Ad cycles_1.1.length Cd)) rfl ?_)
 refine Rg_op rfl (op_assign (v := (Value.int .i64 cycles_1.2)) rfl ?_)
 refine Rg_nil (Wp_seq (Wp_seq ?_))
 obtain ⟨hs43, p44⟩ := hs35.sub (bs' := []) (.cons _ List.Sublist.slnil)
 clear Fa Fb
 replace Fc := Fc.step p44; replace Fd := Fd.step p44; clear p44 hs35
 refine Wp_region ?_
 refine Rg_op rfl (op_move (v := (Value.int .i64 cycles_1.2)) rfl ?_)
 refine Rg_op rfl (op_neq rfl rfl ?_)
 refine Rg_nil ?_
 refine Wp_cond rfl (fun hc45 => ?_) (fun hc45 => ?_)
 replace hm := bif_t hm hc45
 refine Wp_seq ?_
 clear Fc
 refine Wp_region ?_
 refine Rg_op rfl (op_move (v := (Value.slice Ad cycles_1.1.length Cd)) rfl ?_)
 refine Rg_op rfl (op_len Try.underlying23 rfl ?_)
 have rl46 := inK_len Fd
 refine Rg_op rfl (op_eql rfl rfl ?_)
 refine Rg_op rfl (op_assign (v := (Value.bool (decide ((cycles_1.1.length : Int) = 0)))) rfl ?_)
 refine Rg_nil ?_
 refine Wp_ret ?_
 have hz := step_all hs43
 replace Fd := Fd.step hz
 refine ⟨_, (show Closes [] _ _ from rfl), [(Value.bool (decide ((cycles_1.1.length : Int) = 0)))], ⟨rfl, trivial⟩, hs43.ext, ?_⟩
 exact Vr.eq (a := vB) (x := (decide ((cycles_1.1.length : Int) = 0))) rfl (Option.some.inj hm)
 replace hm := bif_f hm hc45
 refine Wp_skip (Wp_seq (Wp_region ?_))
 refine Rg_op rfl (op_makeMap hs43 ?_)
 intro b47 w48 p49 hs50
 replace Fc := Fc.step p49; replace Fd := Fd.step p49; clear p49 hs43
 have M51 : Mo .i64 mvB (Obj.map #[] 0) ([] : List (Int × Bool)) := Mo.nil_
 refine Rg_op rfl (op_assign (v := (Value.map (some b47))) rfl ?_)
 refine Rg_nil (Wp_seq (Wp_region ?_))
 refine Rg_op rfl (op_assign (v := (Value.int .i64 (-1))) rfl ?_)
 refine Rg_nil (Wp_seq (Wp_seq (Wp_region ?_)))
 refine Rg_op rfl (op_move (v := (Value.slice Ad cycles_1.1.length Cd)) rfl ?_)
 refine Rg_op rfl (op_len Try.underlying23 rfl ?_)
 have rl53 := inK_len Fd
 refine Rg_op rfl (op_move (v := (Value.int .i64 0)) rfl ?_)
 refine Rg_nil (Wp_block ?_)
 refine Wp_reset [] [(1, (Value.slice Ac slots.length Cc)), (7, (Value.map (some b47))), (8, (Value.int .i64 (-1))), (41, (Value.slice Ad cycles_1.1.length Cd)), (42, (Value.int .i64 (cycles_1.1.length : Int))), (43, (Value.int .i64 0))] rfl ⟨rfl, rfl, rfl, rfl, rfl, rfl, trivial⟩ fun ξ57 => ?_
 refine Wp_loopM [4, 8, 10, 11, 12, 13, 14, 16, 43, 44, 45, 46, 47, 48, 49, 50, 51, 52, 53, 54, 55, 56, 57, 58, 59, 60, 61, 62, 63, 64, 65, 66, 67, 68, 69, 70, 71, 72, 73, 74, 75, 76, 77, 78, 79, 80, 81, 82, 83, 84, 85, 86, 87, 88, 89, 90, 91, 92, 93, 94, 95, 96, 97, 98, 99, 100, 101, 102, 103, 104, 105, 106, 107, 108, 109, 110, 111, 112, 113, 114, 115, 116, 117, 118, 119, 120, 121, 122, 123, 124, 125, 126, 127, 128, 129, 130, 131, 132, 133, 134, 135, 136, 137, 138, 139, 140, 141, 142, 143, 144, 145] (fun m fr w' => ∃ (last_1 : Int) (v_2 : Int) (map_1 : List (Int × Bool)) (o_g56 : Obj) (Ebs : Ents), Ebs = [(some b47, o_g56)] ∧ fr [] [(8, (Value.int .i64 last_1)), (43, (Value.int .i64 v_2))] ∧ Step (ks [(some b47, (Obj.map #[] 0))] O) w48 (ks Ebs O) w' ∧ St ⟨w, [], []⟩ O w' Ebs ∧ InK .i64 last_1 ∧ InK .i64 v_2 ∧ Mo .i64 mvB o_g56 map_1 ∧ loop3 (m7_overflightlaw38_ClearingMoves_B0 slots cycles_1) m last_1 v_2 map_1 = some x) (((cycles_1.1.length : Int) - 0).toNat + 1) ⟨(-1), 0, ([] : List (Int × Bool)), (Obj.map #[] 0), _, rfl, ⟨Out.refl _ _, rfl, rfl, rfl, trivial⟩, Step.refl _ _, hs50, (show InK .i64 (-1) from by decide), (show InK .i64 0 from by decide), M51, hm⟩ ?_ ?_
 rintro _ _ ⟨_, _, _, _, _, _, _, _, _, _, _, _, hm⟩; exact loop3_z hm
 rintro m61 K60 hK60 ρ66 w62 ⟨last_1, v_2, map_1, o_g56, Ebs, hEbs, hfr65, hst64, hs63, Rc, Rd, M_g56, hm⟩
 obtain ⟨sf58, hsf59, hm⟩ := loop3_s hm; unfold m7_overflightlaw38_ClearingMoves_B0 at hm
 subst hEbs; rw [hfr65.eq]; clear hfr65
 replace Fc := Fc.step hst64; replace Fd := Fd.step hst64
 have ch67 := hst64
 refine Wp_seq (Wp_region ?_)
 refine Rg_op rfl (op_lss rfl rfl ?_)
 refine Rg_nil (Wp_seq ?_)
 refine Wp_cond rfl (fun hc68 => ?_) (fun hc68 => ?_)
 replace hm := bif_t hm hc68
 refine Wp_skip ?_
 refine Wp_reset2 [4, 8, 10, 11, 12, 13, 14, 16, 43, 44, 45, 46, 47, 48, 49, 50, 51, 52, 53, 54, 55, 56, 57, 58, 59, 60, 61, 62, 63, 64, 65, 66, 67, 68, 69, 70, 71, 72, 73, 74, 75, 76, 77, 78, 79, 80, 81, 82, 83, 84, 85, 86, 87, 88, 89, 90, 91, 92, 93, 94, 95, 96, 97, 98, 99, 100, 101, 102, 103, 104, 105, 106, 107, 108, 109, 110, 111, 112, 113, 114, 115, 116, 117, 118, 119, 120, 121, 122, 123, 124, 125, 126, 127, 128, 129, 130, 131, 132, 133, 134, 135, 136, 137, 138, 139, 140, 141, 142, 143, 144, 145] [] (updL ⟨ξ57, []⟩ [(1, (Value.slice Ac slots.length Cc)), (7, (Value.map (some b47))), (8, (Value.int .i64 (-1))), (41, (Value.slice Ad cycles_1.1.length Cd)), (42, (Value.int .i64 (cycles_1.1.length : Int))), (43, (Value.int .i64 0))]) [(8, (Value.int .i64 last_1)), (43, (Value.int .i64 v_2))] (by repeat (first | with_reducible exact Out.refl _ _ | refine Out.upd ?_ rfl | refine Out.updL ?_ rfl | refine Out.mix' ?_ rfl | exact Out.refl _ _)) rfl ⟨rfl, rfl, trivial⟩ fun ξ69 => ?_
 replace hm := jn_elim hm; obtain ⟨k72, hk73, hm⟩ := hm
 refine Wp_seqJ [4, 8, 10, 11, 12, 13, 14, 16, 45, 46, 47, 48, 49, 50, 51, 52, 53, 54, 55, 56, 57, 58, 59, 60, 61, 62, 63, 64, 65, 66, 67, 68, 69, 70, 71, 72, 73, 74, 75, 76, 77, 78, 79, 80, 81, 82, 83, 84, 85, 86, 87, 88, 89, 90, 91, 92, 93, 94, 95, 96, 97, 98, 99, 100, 101, 102, 103, 104, 105, 106, 107, 108, 109, 110, 111, 112, 113, 114, 115, 116, 117, 118, 119, 120, 121, 122, 123, 124, 125, 126, 127, 128, 129, 130, 131, 132, 133, 134, 135, 136, 137, 138, 139, 140, 141, 142, 143, 144] (fun fr w' => ∃ (last_2 : Int) (map_2 : List (Int × Bool)) (o_g71 : Obj) (Ebs : Ents), Ebs = [(some b47, o_g71)] ∧ fr [] [(8, (Value.int .i64 last_2))] ∧ Step (ks [(some b47, o_g56)] O) w62 (ks Ebs O) w' ∧ St ⟨w, [], []⟩ O w' Ebs ∧ InK .i64 last_2 ∧ Mo .i64 mvB o_g71 map_2 ∧ k72 last_2 map_2 = some x) ?_ ?_
 rintro ρ79 w75 ⟨last_2, map_2, o_g71, Ebs, hEbs, hfr78, hst77, hs76, Re, M_g71, hm⟩
 replace hm := jnE2 hk73 hm
 subst hEbs; rw [hfr78.eq]; clear hfr78
 replace Fc := Fc.step hst77; replace Fd := Fd.step hst77; replace ch67 := ch67.trans hst77; clear hst77 hs63
 refine Wp_region ?_
 refine Rg_op rfl (op_addw rfl rfl ?_)
 refine Rg_op rfl (op_move (v := (Value.int .i64 (IntKind.wrap .i64 (v_2 + 1)))) rfl ?_)
 refine Rg_nil ?_
 exact hK60 _ _ ⟨last_2, (IntKind.wrap .i64 (v_2 + 1)), map_2, o_g71, _, rfl, ⟨(by repeat (first | with_reducible exact Out.refl _ _ | refine Out.upd ?_ rfl | refine Out.updL ?_ rfl | refine Out.mix' ?_ rfl | exact Out.refl _ _)), rfl, rfl, rfl, trivial⟩, ch67, hs76, Re, (inK_wrap .i64 _), M_g71, jnE3 hsf59 hm⟩
 intro K74 hK74
 have ch80 := Step.refl (ks [(some b47, o_g56)] O) w62
 refine Wp_block (Wp_seq (Wp_region ?_))
 replace hm := ck_some hm; obtain ⟨hc81, hm⟩ := hm
 refine Rg_op rfl (op_indexAddr (q := (rSl (rInt .i64))) ty23 ty22 rfl rfl Fd rfl hc81.1 hc81.2 ?_)
 intro p82 f83
 refine Rg_op rfl (op_loadP ty22 rfl f83 rfl ?_)
 intro v84 h85
 obtain ⟨Ae, Ce, rfl, Fe⟩ := un_sl h85
 refine Rg_op rfl (op_assign (v := (Value.slice Ae (cycles_1.1.getD v_2.toNat default).length Ce)) rfl ?_)
 refine Rg_nil (Wp_seq (Wp_seq ?_))
 clear f83
 refine Wp_region ?_
 refine Rg_op rfl (op_move (v := (Value.slice Ae (cycles_1.1.getD v_2.toNat default).length Ce)) rfl ?_)
 refine Rg_op rfl (op_len Try.underlying22 rfl ?_)
 have rl87 := inK_len Fe
 refine Rg_op rfl (op_eql rfl rfl ?_)
 refine Rg_nil ?_
 refine Wp_cond rfl (fun hc88 => ?_) (fun hc88 => ?_)
 replace hm := bif_t hm hc88
 refine Wp_seq ?_
 clear Fc Fd Fe
 refine Wp_region ?_
 refine Rg_op rfl (op_assign (v := (Value.bool false)) rfl ?_)
 refine Rg_nil ?_
 refine Wp_ret ?_
 have hz := step_all hs63
 refine ⟨_, (show Closes [] _ _ from rfl), [(Value.bool false)], ⟨rfl, trivial⟩, hs63.ext, ?_⟩
 exact Vr.eq (a := vB) (x := false) rfl (Option.some.inj hm)
 replace hm := bif_f hm hc88
 refine Wp_skip (Wp_seq (Wp_region ?_))
 refine Rg_op rfl (op_move (v := (Value.slice Ae (cycles_1.1.getD v_2.toNat default).length Ce)) rfl ?_)
 replace hm := ck_some hm; obtain ⟨hc89, hm⟩ := hm
 refine Rg_op rfl (op_indexAddr (q := (rInt .i64)) ty22 ty3 rfl rfl Fe rfl hc89.1 hc89.2 ?_)
 intro p90 f91
 refine Rg_op rfl (op_loadP ty3 rfl f91 rfl ?_)
 intro v92 h93
 obtain ⟨rfl, Rf⟩ := un_int h93
 refine Rg_op rfl (op_assign (v := (Value.int .i64 ((cycles_1.1.getD v_2.toNat default).getD 0 default))) rfl ?_)
 refine Rg_nil (Wp_seq (Wp_seq ?_))
 clear f91
 refine Wp_region ?_
 refine Rg_op rfl (op_move (v := (Value.slice Ae (cycles_1.1.getD v_2.toNat default).length Ce)) rfl ?_)
 refine Rg_op rfl (op_len Try.underlying22 rfl ?_)
 have rl95 := inK_len Fe
 refine Rg_op rfl (op_move (v := (Value.int .i64 0)) rfl ?_)
 refine Rg_nil (Wp_block ?_)
 refine Wp_reset2 [4, 8, 10, 11, 12, 13, 14, 16, 45, 46, 47, 48, 49, 50, 51, 52, 53, 54, 55, 56, 57, 58, 59, 60, 61, 62, 63, 64, 65, 66, 67, 68, 69, 70, 71, 72, 73, 74, 75, 76, 77, 78, 79, 80, 81, 82, 83, 84, 85, 86, 87, 88, 89, 90, 91, 92, 93, 94, 95, 96, 97, 98, 99, 100, 101, 102, 103, 104, 105, 106, 107, 108, 109, 110, 111, 112, 113, 114, 115, 116, 117, 118, 119, 120, 121, 122, 123, 124, 125, 126, 127, 128, 129, 130, 131, 132, 133, 134, 135, 136, 137, 138, 139, 140, 141, 142, 143, 144] [] (updL (mix [4, 8, 10, 11, 12, 13, 14, 16, 43, 44, 45, 46, 47, 48, 49, 50, 51, 52, 53, 54, 55, 56, 57, 58, 59, 60, 61, 62, 63, 64, 65, 66, 67, 68, 69, 70, 71, 72, 73, 74, 75, 76, 77, 78, 79, 80, 81, 82, 83, 84, 85, 86, 87, 88, 89, 90, 91, 92, 93, 94, 95, 96, 97, 98, 99, 100, 101, 102, 103, 104, 105, 106, 107, 108, 109, 110, 111, 112, 113, 114, 115, 116, 117, 118, 119, 120, 121, 122, 123, 124, 125, 126, 127, 128, 129, 130, 131, 132, 133, 134, 135, 136, 137, 138, 139, 140, 141, 142, 143, 144, 145] [] ξ69 (updL ⟨ξ57, []⟩ [(1, (Value.slice Ac slots.length Cc)), (7, (Value.map (some b47))), (8, (Value.int .i64 (-1))), (41, (Value.slice Ad cycles_1.1.length Cd)), (42, (Value.int .i64 (cycles_1.1.length : Int))), (43, (Value.int .i64 0))])) [(8, (Value.int .i64 last_1)), (43, (Value.int .i64 v_2))]) [(8, (Value.int .i64 last_1)), (10, (Value.slice Ae (cycles_1.1.getD v_2.toNat default).length Ce)), (11, (Value.int .i64 ((cycles_1.1.getD v_2.toNat default).getD 0 default))), (53, (Value.slice Ae (cycles_1.1.getD v_2.toNat default).length Ce)), (54, (Value.int .i64 ((cycles_1.1.getD v_2.toNat default).length : Int))), (55, (Value.int .i64 0))] (by repeat (first | with_reducible exact Out.refl _ _ | refine Out.upd ?_ rfl | refine Out.updL ?_ rfl | refine Out.mix' ?_ rfl | exact Out.refl _ _)) rfl ⟨rfl, rfl, rfl, rfl, rfl, rfl, trivial⟩ fun ξ99 => ?_
 refine Wp_loopM [4, 11, 12, 13, 55, 56, 57, 58, 59, 60, 61, 62, 63, 64, 65, 66, 67, 68, 69, 70, 71, 72, 73, 74, 75, 76, 77, 78, 79, 80, 81, 82, 83, 84, 85, 86, 87, 88, 89, 90, 91, 92, 93, 94, 95, 96, 97, 98, 99, 100, 101, 102] (fun m fr w' => ∃ (least_1 : Int) (v_3 : Int) (map_3 : List (Int × Bool)) (o_g98 : Obj) (Ebs : Ents), Ebs = [(some b47, o_g98)] ∧ fr [] [(11, (Value.int .i64 least_1)), (55, (Value.int .i64 v_3))] ∧ Step (ks [(some b47, o_g56)] O) w62 (ks Ebs O) w' ∧ St ⟨w, [], []⟩ O w' Ebs ∧ InK .i64 least_1 ∧ InK .i64 v_3 ∧ Mo .i64 mvB o_g98 map_3 ∧ loop3 (m7_overflightlaw38_ClearingMoves_B1 slots cycles_1 last_1 v_2 k72) m least_1 v_3 map_3 = some x) ((((cycles_1.1.getD v_2.toNat default).length : Int) - 0).toNat + 1) ⟨((cycles_1.1.getD v_2.toNat default).getD 0 default), 0, map_1, o_g56, _, rfl, ⟨Out.refl _ _, rfl, rfl, rfl, trivial⟩, Step.refl _ _, hs63, Rf, (show InK .i64 0 from by decide), M_g56, hm⟩ ?_ ?_
 rintro _ _ ⟨_, _, _, _, _, _, _, _, _, _, _, _, hm⟩; exact loop3_z hm
 rintro m103 K102 hK102 ρ108 w104 ⟨least_1, v_3, map_3, o_g98, Ebs, hEbs, hfr107, hst106, hs105, Rg, Rh, M_g98, hm⟩
 obtain ⟨sf100, hsf101, hm⟩ := loop3_s hm; unfold m7_overflightlaw38_ClearingMoves_B1 at hm
 subst hEbs; rw [hfr107.eq]; clear hfr107
 replace Fc := Fc.step hst106; replace Fd := Fd.step hst106; replace Fe := Fe.step hst106; replace ch67 := ch67.trans hst106; replace ch80 := ch80.trans hst106
 have ch109 := hst106
 refine Wp_seq (Wp_region ?_)
 refine Rg_op rfl (op_lss rfl rfl ?_)
 refine Rg_nil (Wp_seq ?_)
 refine Wp_cond rfl (fun hc110 => ?_) (fun hc110 => ?_)
 replace hm := bif_t hm hc110
 refine Wp_skip (Wp_seq (Wp_block (Wp_seq (Wp_region ?_))))
 refine Rg_op rfl (op_move (v := (Value.int .i64 v_3)) rfl ?_)
 replace hm := ck_some hm; obtain ⟨hc111, hm⟩ := hm
 refine Rg_op rfl (op_indexAddr (q := (rInt .i64)) ty22 ty3 rfl rfl Fe rfl hc111.1 hc111.2 ?_)
 intro p112 f113
 refine Rg_op rfl (op_loadP ty3 rfl f113 rfl ?_)
 intro v114 h115
 obtain ⟨rfl, Ri⟩ := un_int h115
 refine Rg_op rfl (op_assign (v := (Value.int .i64 v_3)) rfl ?_)
 refine Rg_op rfl (op_assign (v := (Value.int .i64 ((cycles_1.1.getD v_2.toNat default).getD v_3.toNat default))) rfl ?_)
 refine Rg_nil (Wp_seq ?_)
 refine Wp_reset2 [4, 11, 12, 13, 55, 56, 57, 58, 59, 60, 61, 62, 63, 64, 65, 66, 67, 68, 69, 70, 71, 72, 73, 74, 75, 76, 77, 78, 79, 80, 81, 82, 83, 84, 85, 86, 87, 88, 89, 90, 91, 92, 93, 94, 95, 96, 97, 98, 99, 100, 101, 102] [] (updL (mix [4, 8, 10, 11, 12, 13, 14, 16, 45, 46, 47, 48, 49, 50, 51, 52, 53, 54, 55, 56, 57, 58, 59, 60, 61, 62, 63, 64, 65, 66, 67, 68, 69, 70, 71, 72, 73, 74, 75, 76, 77, 78, 79, 80, 81, 82, 83, 84, 85, 86, 87, 88, 89, 90, 91, 92, 93, 94, 95, 96, 97, 98, 99, 100, 101, 102, 103, 104, 105, 106, 107, 108, 109, 110, 111, 112, 113, 114, 115, 116, 117, 118, 119, 120, 121, 122, 123, 124, 125, 126, 127, 128, 129, 130, 131, 132, 133, 134, 135, 136, 137, 138, 139, 140, 141, 142, 143, 144] [] ξ99 (updL (mix [4, 8, 10, 11, 12, 13, 14, 16, 43, 44, 45, 46, 47, 48, 49, 50, 51, 52, 53, 54, 55, 56, 57, 58, 59, 60, 61, 62, 63, 64, 65, 66, 67, 68, 69, 70, 71, 72, 73, 74, 75, 76, 77, 78, 79, 80, 81, 82, 83, 84, 85, 86, 87, 88, 89, 90, 91, 92, 93, 94, 95, 96, 97, 98, 99, 100, 101, 102, 103, 104, 105, 106, 107, 108, 109, 110, 111, 112, 113, 114, 115, 116, 117, 118, 119, 120, 121, 122, 123, 124, 125, 126, 127, 128, 129, 130, 131, 132, 133, 134, 135, 136, 137, 138, 139, 140, 141, 142, 143, 144, 145] [] ξ69 (updL ⟨ξ57, []⟩ [(1, (Value.slice Ac slots.length Cc)), (7, (Value.map (some b47))), (8, (Value.int .i64 (-1))), (41, (Value.slice Ad cycles_1.1.length Cd)), (42, (Value.int .i64 (cycles_1.1.length : Int))), (43, (Value.int .i64 0))])) [(8, (Value.int .i64 last_1)), (43, (Value.int .i64 v_2))])) [(8, (Value.int .i64 last_1)), (10, (Value.slice Ae (cycles_1.1.getD v_2.toNat default).length Ce)), (11, (Value.int .i64 ((cycles_1.1.getD v_2.toNat default).getD 0 default))), (53, (Value.slice Ae (cycles_1.1.getD v_2.toNat default).length Ce)), (54, (Value.int .i64 ((cycles_1.1.getD v_2.toNat default).length : Int))), (55, (Value.int .i64 0))]) [(11, (Value.int .i64 least_1)), (12, (Value.int .i64 v_3)), (13, (Value.int .i64 ((cycles_1.1.getD v_2.toNat default).getD v_3.toNat default))), (55, (Value.int .i64 v_3))] (by repeat (first | with_reducible exact Out.refl _ _ | refine Out.upd ?_ rfl | refine Out.updL ?_ rfl | refine Out.mix' ?_ rfl | exact Out.refl _ _)) rfl ⟨rfl, rfl, rfl, rfl, trivial⟩ fun ξ117 => ?_
 replace hm := jn_elim hm; obtain ⟨k119, hk120, hm⟩ := hm
 refine Wp_seqJ [60, 61, 62, 63, 64, 65, 66, 67, 68, 69, 70, 71, 72, 73, 74, 75, 76, 77, 78, 79, 80, 81, 82, 83, 84, 85, 86, 87, 88, 89, 90, 91, 92, 93, 94, 95, 96] (fun fr w' => ∃ (v_4 : Bool) (Ebs : Ents), Ebs = [(some b47, o_g98)] ∧ fr [] [(96, (Value.bool v_4))] ∧ Step (ks [(some b47, o_g98)] O) w104 (ks Ebs O) w' ∧ St ⟨w, [], []⟩ O w' Ebs ∧ k119 v_4 = some x) ?_ ?_
 rintro ρ126 w122 ⟨v_4, Ebs, hEbs, hfr125, hst124, hs123, hm⟩
 replace hm := jnE1 hk120 hm
 subst hEbs; rw [hfr125.eq]; clear hfr125
 replace Fc := Fc.step hst124; replace Fd := Fd.step hst124; replace Fe := Fe.step hst124; replace f113 := f113.step hst124; replace ch67 := ch67.trans hst124; replace ch80 := ch80.trans hst124; replace ch109 := ch109.trans hst124; clear hst124 hs105
 refine Wp_cond rfl (fun hc127 => ?_) (fun hc127 => ?_)
 replace hm := bif_t hm hc127
 refine Wp_seq ?_
 clear Fc Fd Fe f113
 refine Wp_region ?_
 refine Rg_op rfl (op_assign (v := (Value.bool false)) rfl ?_)
 refine Rg_nil ?_
 refine Wp_ret ?_
 have hz := step_all hs123
 refine ⟨_, (show Closes [] _ _ from rfl), [(Value.bool false)], ⟨rfl, trivial⟩, hs123.ext, ?_⟩
 exact Vr.eq (a := vB) (x := false) rfl (Option.some.inj hm)
 replace hm := bif_f hm hc127
 refine Wp_skip (Wp_seq ?_)
 clear f113
 refine Wp_region ?_
 refine Rg_op rfl (op_move (v := (Value.map (some b47))) rfl ?_)
 refine Rg_op rfl (op_move (v := (Value.int .i64 ((cycles_1.1.getD v_2.toNat default).getD v_3.toNat default))) rfl ?_)
 refine Rg_op_ (op_mapUpdate (q := .i64) (m := mvB) (v := true) (i := 0) Try.underlying39 Try.underlying3 hs123 rfl M_g98 rfl rfl rfl rfl Ri trivial ?_)
 intro o128 w129 p130 hs131 M132
 replace Fc := Fc.step p130; replace Fd := Fd.step p130; replace Fe := Fe.step p130; replace ch67 := ch67.trans p130; replace ch80 := ch80.trans p130; replace ch109 := ch109.trans p130; clear p130 hs123
 refine Rg_nil (Wp_region ?_)
 refine Rg_op rfl (op_move (v := (Value.int .i64 least_1)) rfl ?_)
 refine Rg_op rfl (op_move (v := (Value.int .i64 ((cycles_1.1.getD v_2.toNat default).getD v_3.toNat default))) rfl ?_)
 refine Rg_op rfl (op_min rfl rfl ?_)
 refine Rg_op rfl (op_assign (v := (Value.int .i64 (min least_1 ((cycles_1.1.getD v_2.toNat default).getD v_3.toNat default)))) rfl ?_)
 refine Rg_nil (Wp_region ?_)
 refine Rg_op rfl (op_addw rfl rfl ?_)
 refine Rg_op rfl (op_move (v := (Value.int .i64 (IntKind.wrap .i64 (v_3 + 1)))) rfl ?_)
 refine Rg_nil ?_
 exact hK102 _ _ ⟨(min least_1 ((cycles_1.1.getD v_2.toNat default).getD v_3.toNat default)), (IntKind.wrap .i64 (v_3 + 1)), (mput map_3 ((cycles_1.1.getD v_2.toNat default).getD v_3.toNat default) true), o128, _, rfl, ⟨(by repeat (first | with_reducible exact Out.refl _ _ | refine Out.upd ?_ rfl | refine Out.updL ?_ rfl | refine Out.mix' ?_ rfl | exact Out.refl _ _)), rfl, rfl, rfl, trivial⟩, ch109, hs131, (inK_min Rg Ri), (inK_wrap .i64 _), M132, jnE3 hsf101 hm⟩
 intro K121 hK121
 have ch133 := Step.refl (ks [(some b47, o_g98)] O) w104
 clear f113
 refine Wp_drawR (g0 := []) (m := 34) (fl := []) (TS_inv hs105) rfl (.inl rfl) rfl (by decide +kernel) ?_  -- 19
 refine Dw_eq (Value.int .i64 ((cycles_1.1.getD v_2.toNat default).getD v_3.toNat default)) (fun ρ134 w135 g hle hi ht => ?_) ?_
 obtain ⟨-, hst, -⟩ := hle
 refine StepOp_plain (op_move (v := (Value.int .i64 ((cycles_1.1.getD v_2.toNat default).getD v_3.toNat default))) (ht 13 rfl) ?_)
 exact Goes.same hi rfl
 refine Dw_eq (Value.bool (decide (((cycles_1.1.getD v_2.toNat default).getD v_3.toNat default) < 0))) (fun ρ137 w138 g hle hi ht => ?_) ?_
 obtain ⟨-, hst, -⟩ := hle
 refine StepOp_plain (op_lss (ht 60 rfl) rfl ?_)
 exact Goes.same hi rfl
 refine Dw_opB (decide (((cycles_1.1.getD v_2.toNat default).getD v_3.toNat default) < 0)) (fun ρ140 w141 g hle hi ht => ?_) (fun hg143 => ?_) (fun hg143 => ?_)
 obtain ⟨-, hst, -⟩ := hle
 refine StepOp_plain (op_move (v := (Value.bool (decide (((cycles_1.1.getD v_2.toNat default).getD v_3.toNat default) < 0)))) (ht 61 rfl) ?_)
 exact Goes.same hi rfl
 replace hm := bif_t hm hg143
 refine Dw_skip (fun _ _ _ ht => wanted_x rfl (ht 62 rfl) rfl) ?_
 refine Dw_skip (fun _ _ _ ht => wanted_x rfl (ht 62 rfl) rfl) ?_
 refine Dw_skip (fun _ _ _ ht => wanted_x rfl (ht 62 rfl) rfl) ?_
 refine Dw_skip (fun _ _ _ ht => wanted_x rfl (ht 62 rfl) rfl) ?_
 refine Dw_eq (Value.bool true) (fun ρ144 w145 g hle hi ht => ?_) ?_
 obtain ⟨-, hst, -⟩ := hle
 refine StepOp_plain (op_pick_t (v := (Value.bool true)) (ht 62 rfl) rfl ?_)
 exact Goes.same hi rfl
 refine Dw_eq (Value.bool true) (fun ρ147 w148 g hle hi ht => ?_) ?_
 obtain ⟨-, hst, -⟩ := hle
 refine StepOp_plain (op_move (v := (Value.bool true)) (ht 67 rfl) ?_)
 exact Goes.same hi rfl
 refine Dw_skip (fun _ _ _ ht => wanted_x rfl (ht 68 rfl) rfl) ?_
 refine Dw_skip (fun _ _ _ ht => wanted_x rfl (ht 68 rfl) rfl) ?_
 refine Dw_skip (fun _ _ _ ht => wanted_x rfl (ht 68 rfl) rfl) ?_
 refine Dw_eq (Value.bool true) (fun ρ150 w151 g hle hi ht => ?_) ?_
 obtain ⟨-, hst, -⟩ := hle
 refine StepOp_plain (op_pick_t (v := (Value.bool true)) (ht 68 rfl) rfl ?_)
 exact Goes.same hi rfl
 refine Dw_eq (Value.bool true) (fun ρ153 w154 g hle hi ht => ?_) ?_
 obtain ⟨-, hst, -⟩ := hle
 refine StepOp_plain (op_move (v := (Value.bool true)) (ht 72 rfl) ?_)
 exact Goes.same hi rfl
 refine Dw_skip (fun _ _ _ ht => wanted_x rfl (ht 73 rfl) rfl) ?_
 refine Dw_skip (fun _ _ _ ht => wanted_x rfl (ht 73 rfl) rfl) ?_
 refine Dw_skip (fun _ _ _ ht => wanted_x rfl (ht 73 rfl) rfl) ?_
 refine Dw_skip (fun _ _ _ ht => wanted_x rfl (ht 73 rfl) rfl) ?_
 refine Dw_skip (fun _ _ _ ht => wanted_x rfl (ht 73 rfl) rfl) ?_
 refine Dw_skip (fun _ _ _ ht => wanted_x rfl (ht 73 rfl) rfl) ?_
 refine Dw_eq (Value.bool true) (fun ρ156 w157 g hle hi ht => ?_) ?_
 obtain ⟨-, hst, -⟩ := hle
 refine StepOp_plain (op_pick_t (v := (Value.bool true)) (ht 73 rfl) rfl ?_)
 exact Goes.same hi rfl
 refine Dw_eq (Value.bool true) (fun ρ159 w160 g hle hi ht => ?_) ?_
 obtain ⟨-, hst, -⟩ := hle
 refine StepOp_plain (op_move (v := (Value.bool true)) (ht 80 rfl) ?_)
 exact Goes.same hi rfl
 refine Dw_skip (fun _ _ _ ht => wanted_x rfl (ht 81 rfl) rfl) ?_
 refine Dw_skip (fun _ _ _ ht => wanted_x rfl (ht 81 rfl) rfl) ?_
 refine Dw_skip (fun _ _ _ ht => wanted_x rfl (ht 81 rfl) rfl) ?_
 refine Dw_skip (fun _ _ _ ht => wanted_x rfl (ht 84 rfl) rfl) ?_
 refine Dw_skip (fun _ _ _ ht => wanted_x rfl (ht 84 rfl) rfl) ?_
 refine Dw_skip (fun _ _ _ ht => wanted_x rfl (ht 84 rfl) rfl) ?_
 refine Dw_skip (fun _ _ _ ht => wanted_x rfl (ht 84 rfl) rfl) ?_
 refine Dw_skip (fun _ _ _ ht => wanted_x rfl (ht 84 rfl) rfl) ?_
 refine Dw_skip (fun _ _ _ ht => wanted_x rfl (ht 84 rfl) rfl) ?_
 refine Dw_skip (fun _ _ _ ht => wanted_x rfl (ht 84 rfl) rfl) ?_
 refine Dw_skip (fun _ _ _ ht => wanted_x rfl (ht 84 rfl) rfl) ?_
 refine Dw_skip (fun _ _ _ ht => wanted_x rfl (ht 84 rfl) rfl) ?_
 refine Dw_nil fun w166 g167 hl168 hi169 => ?_
 obtain ⟨-, hst170, -⟩ := hl168
 obtain ⟨hs172, p171⟩ := Step.nx hi169
 rintro _ rfl
 rintro _ rfl
 rintro _ rfl
 rintro _ rfl
 rintro _ rfl
 rintro _ rfl
 rintro _ rfl
 rintro _ rfl
 rintro _ rfl
 rintro _ rfl
 rintro _ rfl
 rintro _ rfl
 rintro _ rfl
 rintro _ rfl
 rintro _ rfl
 rintro _ rfl
 rintro _ rfl
 rintro _ rfl
 rintro _ rfl
 rintro _ rfl
 rintro _ rfl
 rintro _ rfl
 rintro _ rfl
 rintro _ rfl
 rintro _ rfl
 rintro _ rfl
 rintro _ rfl
 rintro _ rfl
 rintro _ rfl
 rintro _ rfl
 rintro _ rfl
 rintro _ rfl
 rintro _ rfl
 rintro _ rfl
 have p173 : Step (ks [(some b47, o_g98)] O) w104 (ks [(some b47, o_g98)] O) w166 := hst170.trans p171
 replace Fc := Fc.step p173; replace Fd := Fd.step p173; replace Fe := Fe.step p173; replace ch67 := ch67.trans p173; replace ch80 := ch80.trans p173; replace ch109 := ch109.trans p173; replace ch133 := ch133.trans p173; clear p173 hs105
 iterate 2 refine Rg_opx rfl (asB_ne rfl rfl) rfl ?_
 refine Rg_op rfl (op_pick_t (v := (Value.bool true)) rfl rfl ?_)
 refine Rg_nil ?_
 exact hK121 _ _ ⟨true, _, rfl, ⟨(by repeat (first | with_reducible exact Out.refl _ _ | refine Out.upd ?_ rfl | refine Out.updL ?_ rfl | refine Out.mix' ?_ rfl | exact Out.refl _ _)), rfl, rfl, trivial⟩, ch133, hs172, hm⟩
 replace hm := bif_f hm hg143
 refine Dw_eq (Value.int .i64 ((cycles_1.1.getD v_2.toNat default).getD v_3.toNat default)) (fun ρ174 w175 g hle hi ht => ?_) ?_
 obtain ⟨-, hst, -⟩ := hle
 refine StepOp_g rfl (ht 62 rfl) (op_move (v := (Value.int .i64 ((cycles_1.1.getD v_2.toNat default).getD v_3.toNat default))) (ht 13 rfl) ?_)
 exact Goes.same hi rfl
 refine Dw_eq (Value.slice Ac slots.length Cc) (fun ρ177 w178 g hle hi ht => ?_) ?_
 obtain ⟨-, hst, -⟩ := hle
 refine StepOp_g rfl (ht 62 rfl) (op_move (v := (Value.slice Ac slots.length Cc)) (ht 1 rfl) ?_)
 exact Goes.same hi rfl
 refine Dw_eq (Value.int .i64 (slots.length : Int)) (fun ρ180 w181 g hle hi ht => ?_) ?_
 obtain ⟨-, hst, -⟩ := hle
 refine StepOp_g rfl (ht 62 rfl) (op_len Try.underlying22 (ht 64 rfl) ?_)
 exact Goes.same hi rfl
 refine Dw_eq (Value.bool (decide ((slots.length : Int) ≤ ((cycles_1.1.getD v_2.toNat default).getD v_3.toNat default)))) (fun ρ183 w184 g hle hi ht => ?_) ?_
 obtain ⟨-, hst, -⟩ := hle
 refine StepOp_g rfl (ht 62 rfl) (op_geq (ht 63 rfl) (ht 65 rfl) ?_)
 exact Goes.same hi rfl
 refine Dw_eq (Value.bool (decide ((slots.length : Int) ≤ ((cycles_1.1.getD v_2.toNat default).getD v_3.toNat default)))) (fun ρ186 w187 g hle hi ht => ?_) ?_
 obtain ⟨-, hst, -⟩ := hle
 refine StepOp_plain (op_pick_f (v := (Value.bool (decide ((slots.length : Int) ≤ ((cycles_1.1.getD v_2.toNat default).getD v_3.toNat default))))) (ht 62 rfl) (ht 66 rfl) ?_)
 exact Goes.same hi rfl
 refine Dw_opB (decide ((slots.length : Int) ≤ ((cycles_1.1.getD v_2.toNat default).getD v_3.toNat default))) (fun ρ189 w190 g hle hi ht => ?_) (fun hg192 => ?_) (fun hg192 => ?_)
 obtain ⟨-, hst, -⟩ := hle
 refine StepOp_plain (op_move (v := (Value.bool (decide ((slots.length : Int) ≤ ((cycles_1.1.getD v_2.toNat default).getD v_3.toNat default))))) (ht 67 rfl) ?_)
 exact Goes.same hi rfl
 replace hm := bif_t hm hg192
 refine Dw_skip (fun _ _ _ ht => wanted_x rfl (ht 68 rfl) rfl) ?_
 refine Dw_skip (fun _ _ _ ht => wanted_x rfl (ht 68 rfl) rfl) ?_
 refine Dw_skip (fun _ _ _ ht => wanted_x rfl (ht 68 rfl) rfl) ?_
 refine Dw_eq (Value.bool true) (fun ρ193 w194 g hle hi ht => ?_) ?_
 obtain ⟨-, hst, -⟩ := hle
 refine StepOp_plain (op_pick_t (v := (Value.bool true)) (ht 68 rfl) rfl ?_)
 exact Goes.same hi rfl
 refine Dw_eq (Value.bool true) (fun ρ196 w197 g hle hi ht => ?_) ?_
 obtain ⟨-, hst, -⟩ := hle
 refine StepOp_plain (op_move (v := (Value.bool true)) (ht 72 rfl) ?_)
 exact Goes.same hi rfl
 refine Dw_skip (fun _ _ _ ht => wanted_x rfl (ht 73 rfl) rfl) ?_
 refine Dw_skip (fun _ _ _ ht => wanted_x rfl (ht 73 rfl) rfl) ?_
 refine Dw_skip (fun _ _ _ ht => wanted_x rfl (ht 73 rfl) rfl) ?_
 refine Dw_skip (fun _ _ _ ht => wanted_x rfl (ht 73 rfl) rfl) ?_
 refine Dw_skip (fun _ _ _ ht => wanted_x rfl (ht 73 rfl) rfl) ?_
 refine Dw_skip (fun _ _ _ ht => wanted_x rfl (ht 73 rfl) rfl) ?_
 refine Dw_eq (Value.bool true) (fun ρ199 w200 g hle hi ht => ?_) ?_
 obtain ⟨-, hst, -⟩ := hle
 refine StepOp_plain (op_pick_t (v := (Value.bool true)) (ht 73 rfl) rfl ?_)
 exact Goes.same hi rfl
 refine Dw_eq (Value.bool true) (fun ρ202 w203 g hle hi ht => ?_) ?_
 obtain ⟨-, hst, -⟩ := hle
 refine StepOp_plain (op_move (v := (Value.bool true)) (ht 80 rfl) ?_)
 exact Goes.same hi rfl
 refine Dw_skip (fun _ _ _ ht => wanted_x rfl (ht 81 rfl) rfl) ?_
 refine Dw_skip (fun _ _ _ ht => wanted_x rfl (ht 81 rfl) rfl) ?_
 refine Dw_skip (fun _ _ _ ht => wanted_x rfl (ht 81 rfl) rfl) ?_
 refine Dw_skip (fun _ _ _ ht => wanted_x rfl (ht 84 rfl) rfl) ?_
 refine Dw_skip (fun _ _ _ ht => wanted_x rfl (ht 84 rfl) rfl) ?_
 refine Dw_skip (fun _ _ _ ht => wanted_x rfl (ht 84 rfl) rfl) ?_
 refine Dw_skip (fun _ _ _ ht => wanted_x rfl (ht 84 rfl) rfl) ?_
 refine Dw_skip (fun _ _ _ ht => wanted_x rfl (ht 84 rfl) rfl) ?_
 refine Dw_skip (fun _ _ _ ht => wanted_x rfl (ht 84 rfl) rfl) ?_
 refine Dw_skip (fun _ _ _ ht => wanted_x rfl (ht 84 rfl) rfl) ?_
 refine Dw_skip (fun _ _ _ ht => wanted_x rfl (ht 84 rfl) rfl) ?_
 refine Dw_skip (fun _ _ _ ht => wanted_x rfl (ht 84 rfl) rfl) ?_
 refine Dw_nil fun w209 g210 hl211 hi212 => ?_
 obtain ⟨-, hst213, -⟩ := hl211
 obtain ⟨hs215, p214⟩ := Step.nx hi212
 rintro _ rfl
 rintro _ rfl
 rintro _ rfl
 rintro _ rfl
 rintro _ rfl
 rintro _ rfl
 rintro _ rfl
 rintro _ rfl
 rintro _ rfl
 rintro _ rfl
 rintro _ rfl
 rintro _ rfl
 rintro _ rfl
 rintro _ rfl
 rintro _ rfl
 rintro _ rfl
 rintro _ rfl
 rintro _ rfl
 rintro _ rfl
 rintro _ rfl
 rintro _ rfl
 rintro _ rfl
 rintro _ rfl
 rintro _ rfl
 rintro _ rfl
 rintro _ rfl
 rintro _ rfl
 rintro _ rfl
 rintro _ rfl
 rintro _ rfl
 rintro _ rfl
 rintro _ rfl
 rintro _ rfl
 rintro _ rfl
 have p216 : Step (ks [(some b47, o_g98)] O) w104 (ks [(some b47, o_g98)] O) w209 := hst213.trans p214
 replace Fc := Fc.step p216; replace Fd := Fd.step p216; replace Fe := Fe.step p216; replace ch67 := ch67.trans p216; replace ch80 := ch80.trans p216; replace ch109 := ch109.trans p216; replace ch133 := ch133.trans p216; clear p216 hs105
 iterate 2 refine Rg_opx rfl (asB_ne rfl rfl) rfl ?_
 refine Rg_op rfl (op_pick_t (v := (Value.bool true)) rfl rfl ?_)
 refine Rg_nil ?_
 exact hK121 _ _ ⟨true, _, rfl, ⟨(by repeat (first | with_reducible exact Out.refl _ _ | refine Out.upd ?_ rfl | refine Out.updL ?_ rfl | refine Out.mix' ?_ rfl | exact Out.refl _ _)), rfl, rfl, trivial⟩, ch133, hs215, hm⟩
 replace hm := bif_f hm hg192
 refine Dw_eq (Value.map (some b47)) (fun ρ217 w218 g hle hi ht => ?_) ?_
 obtain ⟨-, hst, -⟩ := hle
 refine StepOp_g rfl (ht 68 rfl) (op_move (v := (Value.map (some b47))) (ht 7 rfl) ?_)
 exact Goes.same hi rfl
 refine Dw_eq (Value.int .i64 ((cycles_1.1.getD v_2.toNat default).getD v_3.toNat default)) (fun ρ220 w221 g hle hi ht => ?_) ?_
 obtain ⟨-, hst, -⟩ := hle
 refine StepOp_g rfl (ht 68 rfl) (op_move (v := (Value.int .i64 ((cycles_1.1.getD v_2.toNat default).getD v_3.toNat default))) (ht 13 rfl) ?_)
 exact Goes.same hi rfl
 refine Dw_eq (Value.bool ((mget map_3 ((cycles_1.1.getD v_2.toNat default).getD v_3.toNat default)).getD false)) (fun ρ223 w224 g hle hi ht => ?_) ?_
 obtain ⟨-, hst, -⟩ := hle
 have hsn := (Step.nx hi).1
 refine StepOp_g rfl (ht 68 rfl) (op_lookup (q := .i64) (m := mvB) (z := false) Try.underlying39 Try.underlying3 Try.zeroValue4 (hsn.get (i := 0) rfl) M_g98 (ht 69 rfl) (ht 70 rfl) ?_)
 exact Goes.same hi rfl
 refine Dw_eq (Value.bool ((mget map_3 ((cycles_1.1.getD v_2.toNat default).getD v_3.toNat default)).getD false)) (fun ρ226 w227 g hle hi ht => ?_) ?_
 obtain ⟨-, hst, -⟩ := hle
 refine StepOp_plain (op_pick_f (v := (Value.bool ((mget map_3 ((cycles_1.1.getD v_2.toNat default).getD v_3.toNat default)).getD false))) (ht 68 rfl) (ht 71 rfl) ?_)
 exact Goes.same hi rfl
 refine Dw_opB ((mget map_3 ((cycles_1.1.getD v_2.toNat default).getD v_3.toNat default)).getD false) (fun ρ229 w230 g hle hi ht => ?_) (fun hg232 => ?_) (fun hg232 => ?_)
 obtain ⟨-, hst, -⟩ := hle
 refine StepOp_plain (op_move (v := (Value.bool ((mget map_3 ((cycles_1.1.getD v_2.toNat default).getD v_3.toNat default)).getD false))) (ht 72 rfl) ?_)
 exact Goes.same hi rfl
 replace hm := bif_t hm hg232
 refine Dw_skip (fun _ _ _ ht => wanted_x rfl (ht 73 rfl) rfl) ?_
 refine Dw_skip (fun _ _ _ ht => wanted_x rfl (ht 73 rfl) rfl) ?_
 refine Dw_skip (fun _ _ _ ht => wanted_x rfl (ht 73 rfl) rfl) ?_
 refine Dw_skip (fun _ _ _ ht => wanted_x rfl (ht 73 rfl) rfl) ?_
 refine Dw_skip (fun _ _ _ ht => wanted_x rfl (ht 73 rfl) rfl) ?_
 refine Dw_skip (fun _ _ _ ht => wanted_x rfl (ht 73 rfl) rfl) ?_
 refine Dw_eq (Value.bool true) (fun ρ233 w234 g hle hi ht => ?_) ?_
 obtain ⟨-, hst, -⟩ := hle
 refine StepOp_plain (op_pick_t (v := (Value.bool true)) (ht 73 rfl) rfl ?_)
 exact Goes.same hi rfl
 refine Dw_eq (Value.bool true) (fun ρ236 w237 g hle hi ht => ?_) ?_
 obtain ⟨-, hst, -⟩ := hle
 refine StepOp_plain (op_move (v := (Value.bool true)) (ht 80 rfl) ?_)
 exact Goes.same hi rfl
 refine Dw_skip (fun _ _ _ ht => wanted_x rfl (ht 81 rfl) rfl) ?_
 refine Dw_skip (fun _ _ _ ht => wanted_x rfl (ht 81 rfl) rfl) ?_
 refine Dw_skip (fun _ _ _ ht => wanted_x rfl (ht 81 rfl) rfl) ?_
 refine Dw_skip (fun _ _ _ ht => wanted_x rfl (ht 84 rfl) rfl) ?_
 refine Dw_skip (fun _ _ _ ht => wanted_x rfl (ht 84 rfl) rfl) ?_
 refine Dw_skip (fun _ _ _ ht => wanted_x rfl (ht 84 rfl) rfl) ?_
 refine Dw_skip (fun _ _ _ ht => wanted_x rfl (ht 84 rfl) rfl) ?_
 refine Dw_skip (fun _ _ _ ht => wanted_x rfl (ht 84 rfl) rfl) ?_
 refine Dw_skip (fun _ _ _ ht => wanted_x rfl (ht 84 rfl) rfl) ?_
 refine Dw_skip (fun _ _ _ ht => wanted_x rfl (ht 84 rfl) rfl) ?_
 refine Dw_skip (fun _ _ _ ht => wanted_x rfl (ht 84 rfl) rfl) ?_
 refine Dw_skip (fun _ _ _ ht => wanted_x rfl (ht 84 rfl) rfl) ?_
 refine Dw_nil fun w243 g244 hl245 hi246 => ?_
 obtain ⟨-, hst247, -⟩ := hl245
 obtain ⟨hs249, p248⟩ := Step.nx hi246
 rintro _ rfl
 rintro _ rfl
 rintro _ rfl
 rintro _ rfl
 rintro _ rfl
 rintro _ rfl
 rintro _ rfl
 rintro _ rfl
 rintro _ rfl
 rintro _ rfl
 rintro _ rfl
 rintro _ rfl
 rintro _ rfl
 rintro _ rfl
 rintro _ rfl
 rintro _ rfl
 rintro _ rfl
 rintro _ rfl
 rintro _ rfl
 rintro _ rfl
 rintro _ rfl
 rintro _ rfl
 rintro _ rfl
 rintro _ rfl
 rintro _ rfl
 rintro _ rfl
 rintro _ rfl
 rintro _ rfl
 rintro _ rfl
 rintro _ rfl
 rintro _ rfl
 rintro _ rfl
 rintro _ rfl
 rintro _ rfl
 have p250 : Step (ks [(some b47, o_g98)] O) w104 (ks [(some b47, o_g98)] O) w243 := hst247.trans p248
 replace Fc := Fc.step p250; replace Fd := Fd.step p250; replace Fe := Fe.step p250; replace ch67 := ch67.trans p250; replace ch80 := ch80.trans p250; replace ch109 := ch109.trans p250; replace ch133 := ch133.trans p250; clear p250 hs105
 iterate 2 refine Rg_opx rfl (asB_ne rfl rfl) rfl ?_
 refine Rg_op rfl (op_pick_t (v := (Value.bool true)) rfl rfl ?_)
 refine Rg_nil ?_
 exact hK121 _ _ ⟨true, _, rfl, ⟨(by repeat (first | with_reducible exact Out.refl _ _ | refine Out.upd ?_ rfl | refine Out.updL ?_ rfl | refine Out.mix' ?_ rfl | exact Out.refl _ _)), rfl, rfl, trivial⟩, ch133, hs249, hm⟩
 replace hm := bif_f hm hg232
 refine Dw_eq (Value.slice Ac slots.length Cc) (fun ρ251 w252 g hle hi ht => ?_) ?_
 obtain ⟨-, hst, -⟩ := hle
 refine StepOp_g rfl (ht 73 rfl) (op_move (v := (Value.slice Ac slots.length Cc)) (ht 1 rfl) ?_)
 exact Goes.same hi rfl
 refine Dw_eq (Value.int .i64 ((cycles_1.1.getD v_2.toNat default).getD v_3.toNat default)) (fun ρ254 w255 g hle hi ht => ?_) ?_
 obtain ⟨-, hst, -⟩ := hle
 refine StepOp_g rfl (ht 73 rfl) (op_move (v := (Value.int .i64 ((cycles_1.1.getD v_2.toNat default).getD v_3.toNat default))) (ht 13 rfl) ?_)
 exact Goes.same hi rfl
 replace hm := ck_some hm; obtain ⟨hc260, hm⟩ := hm
 refine Dw_op (VP O [(some b47, o_g98)] (rInt .i64) (slots.getD ((cycles_1.1.getD v_2.toNat default).getD v_3.toNat default).toNat default)) (VP.stab _ _) (fun ρ257 w258 g hle hi ht => ?_) ?_
 obtain ⟨-, hst, -⟩ := hle
 replace Fc := Fc.step hst
 refine StepOp_g rfl (ht 73 rfl) (op_indexAddr (q := (rInt .i64)) ty22 ty3 (ht 74 rfl) (ht 75 rfl) Fc rfl hc260.1 hc260.2 ?_)
 intro p261 f262
 exact Goes.same hi ⟨_, rfl, f262⟩
 refine Dw_op (VD O [(some b47, o_g98)] (vI .i64) (slots.getD ((cycles_1.1.getD v_2.toNat default).getD v_3.toNat default).toNat default)) (VD.stab _ _) (fun ρ263 w264 g hle hi ht => ?_) ?_
 obtain ⟨-, hst, -⟩ := hle
 obtain ⟨p266, q267, f268⟩ := ht 76 rfl
 refine StepOp_g rfl (ht 73 rfl) (op_loadP ty3 q267 f268 rfl ?_)
 intro v269 h270
 obtain ⟨rfl, Rj⟩ := un_int h270
 exact Goes.same hi (show Vr.vd (vI .i64) _ _ _ _ from ⟨rfl, Rj⟩)
 refine Dw_eq (Value.int .i64 ((cycles_1.1.getD v_2.toNat default).getD v_3.toNat default)) (fun ρ272 w273 g hle hi ht => ?_) ?_
 obtain ⟨-, hst, -⟩ := hle
 refine StepOp_g rfl (ht 73 rfl) (op_move (v := (Value.int .i64 ((cycles_1.1.getD v_2.toNat default).getD v_3.toNat default))) (ht 13 rfl) ?_)
 exact Goes.same hi rfl
 refine Dw_eq (Value.bool (decide ((slots.getD ((cycles_1.1.getD v_2.toNat default).getD v_3.toNat default).toNat default) = ((cycles_1.1.getD v_2.toNat default).getD v_3.toNat default)))) (fun ρ275 w276 g hle hi ht => ?_) ?_
 obtain ⟨-, hst, -⟩ := hle
 have h278 : Vr.vd (vI .i64) _ _ _ _ := ht 77 rfl
 obtain ⟨q279, Rk⟩ := h278
 refine StepOp_g rfl (ht 73 rfl) (op_eql q279 (ht 78 rfl) ?_)
 exact Goes.same hi rfl
 refine Dw_eq (Value.bool (decide ((slots.getD ((cycles_1.1.getD v_2.toNat default).getD v_3.toNat default).toNat default) = ((cycles_1.1.getD v_2.toNat default).getD v_3.toNat default)))) (fun ρ281 w282 g hle hi ht => ?_) ?_
 obtain ⟨-, hst, -⟩ := hle
 refine StepOp_plain (op_pick_f (v := (Value.bool (decide ((slots.getD ((cycles_1.1.getD v_2.toNat default).getD v_3.toNat default).toNat default) = ((cycles_1.1.getD v_2.toNat default).getD v_3.toNat default))))) (ht 73 rfl) (ht 79 rfl) ?_)
 exact Goes.same hi rfl
 refine Dw_opB (decide ((slots.getD ((cycles_1.1.getD v_2.toNat default).getD v_3.toNat default).toNat default) = ((cycles_1.1.getD v_2.toNat default).getD v_3.toNat default))) (fun ρ284 w285 g hle hi ht => ?_) (fun hg287 => ?_) (fun hg287 => ?_)
 obtain ⟨-, hst, -⟩ := hle
 refine StepOp_plain (op_move (v := (Value.bool (decide ((slots.getD ((cycles_1.1.getD v_2.toNat default).getD v_3.toNat default).toNat default) = ((cycles_1.1.getD v_2.toNat default).getD v_3.toNat default))))) (ht 80 rfl) ?_)
 exact Goes.same hi rfl
 replace hm := bif_t hm hg287
 refine Dw_skip (fun _ _ _ ht => wanted_x rfl (ht 81 rfl) rfl) ?_
 refine Dw_skip (fun _ _ _ ht => wanted_x rfl (ht 81 rfl) rfl) ?_
 refine Dw_skip (fun _ _ _ ht => wanted_x rfl (ht 81 rfl) rfl) ?_
 refine Dw_skip (fun _ _ _ ht => wanted_x rfl (ht 84 rfl) rfl) ?_
 refine Dw_skip (fun _ _ _ ht => wanted_x rfl (ht 84 rfl) rfl) ?_
 refine Dw_skip (fun _ _ _ ht => wanted_x rfl (ht 84 rfl) rfl) ?_
 refine Dw_skip (fun _ _ _ ht => wanted_x rfl (ht 84 rfl) rfl) ?_
 refine Dw_skip (fun _ _ _ ht => wanted_x rfl (ht 84 rfl) rfl) ?_
 refine Dw_skip (fun _ _ _ ht => wanted_x rfl (ht 84 rfl) rfl) ?_
 refine Dw_skip (fun _ _ _ ht => wanted_x rfl (ht 84 rfl) rfl) ?_
 refine Dw_skip (fun _ _ _ ht => wanted_x rfl (ht 84 rfl) rfl) ?_
 refine Dw_skip (fun _ _ _ ht => wanted_x rfl (ht 84 rfl) rfl) ?_
 refine Dw_nil fun w292 g293 hl294 hi295 => ?_
 obtain ⟨-, hst296, -⟩ := hl294
 obtain ⟨hs298, p297⟩ := Step.nx hi295
 rintro _ rfl
 rintro _ rfl
 rintro _ rfl
 rintro _ rfl
 rintro _ rfl
 rintro _ rfl
 rintro _ rfl
 rintro _ rfl
 rintro _ rfl
 rintro _ rfl
 rintro _ rfl
 rintro _ rfl
 rintro _ rfl
 rintro _ rfl
 rintro _ rfl
 rintro _ rfl
 rintro v299 h300
 replace h300 : Vr.vd (vI .i64) _ _ _ _ := h300
 obtain ⟨rfl, Rl⟩ := h300
 rintro _ ⟨p302, rfl, f303⟩
 rintro _ rfl
 rintro _ rfl
 rintro _ rfl
 rintro _ rfl
 rintro _ rfl
 rintro _ rfl
 rintro _ rfl
 rintro _ rfl
 rintro _ rfl
 rintro _ rfl
 rintro _ rfl
 rintro _ rfl
 rintro _ rfl
 rintro _ rfl
 rintro _ rfl
 rintro _ rfl
 have p304 : Step (ks [(some b47, o_g98)] O) w104 (ks [(some b47, o_g98)] O) w292 := hst296.trans p297
 replace f303 := f303.step p297; replace Fc := Fc.step p304; replace Fd := Fd.step p304; replace Fe := Fe.step p304; replace ch67 := ch67.trans p304; replace ch80 := ch80.trans p304; replace ch109 := ch109.trans p304; replace ch133 := ch133.trans p304; clear p304 hs105
 iterate 2 refine Rg_opx rfl (asB_ne rfl rfl) rfl ?_
 refine Rg_op rfl (op_pick_t (v := (Value.bool true)) rfl rfl ?_)
 refine Rg_nil ?_
 exact hK121 _ _ ⟨true, _, rfl, ⟨(by repeat (first | with_reducible exact Out.refl _ _ | refine Out.upd ?_ rfl | refine Out.updL ?_ rfl | refine Out.mix' ?_ rfl | exact Out.refl _ _)), rfl, rfl, trivial⟩, ch133, hs298, hm⟩
 replace hm := bif_f hm hg287
 refine Dw_eq (Value.int .i64 v_3) (fun ρ305 w306 g hle hi ht => ?_) ?_
 obtain ⟨-, hst, -⟩ := hle
 refine StepOp_g rfl (ht 81 rfl) (op_move (v := (Value.int .i64 v_3)) (ht 12 rfl) ?_)
 exact Goes.same hi rfl
 refine Dw_eq (Value.bool (decide (0 < v_3))) (fun ρ308 w309 g hle hi ht => ?_) ?_
 obtain ⟨-, hst, -⟩ := hle
 refine StepOp_g rfl (ht 81 rfl) (op_gtr (ht 82 rfl) rfl ?_)
 exact Goes.same hi rfl
 refine Dw_opB (decide (0 < v_3)) (fun ρ311 w312 g hle hi ht => ?_) (fun hg314 => ?_) (fun hg314 => ?_)
 obtain ⟨-, hst, -⟩ := hle
 refine StepOp_g rfl (ht 81 rfl) (op_move (v := (Value.bool (decide (0 < v_3)))) (ht 83 rfl) ?_)
 exact Goes.same hi rfl
 replace hm := bif_t hm hg314
 refine Dw_eq (Value.slice Ac slots.length Cc) (fun ρ315 w316 g hle hi ht => ?_) ?_
 obtain ⟨-, hst, -⟩ := hle
 refine StepOp_g rfl (ht 84 rfl) (op_move (v := (Value.slice Ac slots.length Cc)) (ht 1 rfl) ?_)
 exact Goes.same hi rfl
 refine Dw_eq (Value.int .i64 ((cycles_1.1.getD v_2.toNat default).getD v_3.toNat default)) (fun ρ318 w319 g hle hi ht => ?_) ?_
 obtain ⟨-, hst, -⟩ := hle
 refine StepOp_g rfl (ht 84 rfl) (op_move (v := (Value.int .i64 ((cycles_1.1.getD v_2.toNat default).getD v_3.toNat default))) (ht 13 rfl) ?_)
 exact Goes.same hi rfl
 replace hm := ck_some hm; obtain ⟨hc324, hm⟩ := hm
 refine Dw_op (VP O [(some b47, o_g98)] (rInt .i64) (slots.getD ((cycles_1.1.getD v_2.toNat default).getD v_3.toNat default).toNat default)) (VP.stab _ _) (fun ρ321 w322 g hle hi ht => ?_) ?_
 obtain ⟨-, hst, -⟩ := hle
 replace Fc := Fc.step hst
 refine StepOp_g rfl (ht 84 rfl) (op_indexAddr (q := (rInt .i64)) ty22 ty3 (ht 85 rfl) (ht 86 rfl) Fc rfl hc324.1 hc324.2 ?_)
 intro p325 f326
 exact Goes.same hi ⟨_, rfl, f326⟩
 refine Dw_op (VD O [(some b47, o_g98)] (vI .i64) (slots.getD ((cycles_1.1.getD v_2.toNat default).getD v_3.toNat default).toNat default)) (VD.stab _ _) (fun ρ327 w328 g hle hi ht => ?_) ?_
 obtain ⟨-, hst, -⟩ := hle
 obtain ⟨p330, q331, f332⟩ := ht 87 rfl
 refine StepOp_g rfl (ht 84 rfl) (op_loadP ty3 q331 f332 rfl ?_)
 intro v333 h334
 obtain ⟨rfl, Rm⟩ := un_int h334
 exact Goes.same hi (show Vr.vd (vI .i64) _ _ _ _ from ⟨rfl, Rm⟩)
 refine Dw_eq (Value.slice Ae (cycles_1.1.getD v_2.toNat default).length Ce) (fun ρ336 w337 g hle hi ht => ?_) ?_
 obtain ⟨-, hst, -⟩ := hle
 refine StepOp_g rfl (ht 84 rfl) (op_move (v := (Value.slice Ae (cycles_1.1.getD v_2.toNat default).length Ce)) (ht 10 rfl) ?_)
 exact Goes.same hi rfl
 refine Dw_eq (Value.int .i64 v_3) (fun ρ339 w340 g hle hi ht => ?_) ?_
 obtain ⟨-, hst, -⟩ := hle
 refine StepOp_g rfl (ht 84 rfl) (op_move (v := (Value.int .i64 v_3)) (ht 12 rfl) ?_)
 exact Goes.same hi rfl
 refine Dw_eq (Value.int .i64 (IntKind.wrap .i64 (v_3 - 1))) (fun ρ342 w343 g hle hi ht => ?_) ?_
 obtain ⟨-, hst, -⟩ := hle
 refine StepOp_g rfl (ht 84 rfl) (op_subw (ht 90 rfl) rfl ?_)
 exact Goes.same hi rfl
 replace hm := ck_some hm; obtain ⟨hc348, hm⟩ := hm
 refine Dw_op (VP O [(some b47, o_g98)] (rInt .i64) ((cycles_1.1.getD v_2.toNat default).getD (IntKind.wrap .i64 (v_3 - 1)).toNat default)) (VP.stab _ _) (fun ρ345 w346 g hle hi ht => ?_) ?_
 obtain ⟨-, hst, -⟩ := hle
 replace Fe := Fe.step hst
 refine StepOp_g rfl (ht 84 rfl) (op_indexAddr (q := (rInt .i64)) ty22 ty3 (ht 89 rfl) (ht 91 rfl) Fe rfl hc348.1 hc348.2 ?_)
 intro p349 f350
 exact Goes.same hi ⟨_, rfl, f350⟩
 refine Dw_op (VD O [(some b47, o_g98)] (vI .i64) ((cycles_1.1.getD v_2.toNat default).getD (IntKind.wrap .i64 (v_3 - 1)).toNat default)) (VD.stab _ _) (fun ρ351 w352 g hle hi ht => ?_) ?_
 obtain ⟨-, hst, -⟩ := hle
 obtain ⟨p354, q355, f356⟩ := ht 92 rfl
 refine StepOp_g rfl (ht 84 rfl) (op_loadP ty3 q355 f356 rfl ?_)
 intro v357 h358
 obtain ⟨rfl, Rn⟩ := un_int h358
 exact Goes.same hi (show Vr.vd (vI .i64) _ _ _ _ from ⟨rfl, Rn⟩)
 refine Dw_nil fun w364 g365 hl366 hi367 => ?_
 obtain ⟨-, hst368, -⟩ := hl366
 obtain ⟨hs370, p369⟩ := Step.nx hi367
 rintro v371 h372
 replace h372 : Vr.vd (vI .i64) _ _ _ _ := h372
 obtain ⟨rfl, Ro⟩ := h372
 rintro _ ⟨p374, rfl, f375⟩
 rintro _ rfl
 rintro _ rfl
 rintro _ rfl
 rintro v376 h377
 replace h377 : Vr.vd (vI .i64) _ _ _ _ := h377
 obtain ⟨rfl, Rp⟩ := h377
 rintro _ ⟨p379, rfl, f380⟩
 rintro _ rfl
 rintro _ rfl
 rintro _ rfl
 rintro _ rfl
 rintro _ rfl
 rintro _ rfl
 rintro _ rfl
 rintro _ rfl
 rintro _ rfl
 rintro v381 h382
 replace h382 : Vr.vd (vI .i64) _ _ _ _ := h382
 obtain ⟨rfl, Rq⟩ := h382
 rintro _ ⟨p384, rfl, f385⟩
 rintro _ rfl
 rintro _ rfl
 rintro _ rfl
 rintro _ rfl
 rintro _ rfl
 rintro _ rfl
 rintro _ rfl
 rintro _ rfl
 rintro _ rfl
 rintro _ rfl
 rintro _ rfl
 rintro _ rfl
 rintro _ rfl
 rintro _ rfl
 rintro _ rfl
 rintro _ rfl
 have p386 : Step (ks [(some b47, o_g98)] O) w104 (ks [(some b47, o_g98)] O) w364 := hst368.trans p369
 replace f375 := f375.step p369; replace f380 := f380.step p369; replace f385 := f385.step p369; replace Fc := Fc.step p386; replace Fd := Fd.step p386; replace Fe := Fe.step p386; replace ch67 := ch67.trans p386; replace ch80 := ch80.trans p386; replace ch109 := ch109.trans p386; replace ch133 := ch133.trans p386; clear p386 hs105
 refine Rg_opg rfl rfl rfl (op_neq rfl rfl ?_)
 refine Rg_opg rfl rfl rfl (op_pick_t (v := (Value.bool (decide ((slots.getD ((cycles_1.1.getD v_2.toNat default).getD v_3.toNat default).toNat default) ≠ ((cycles_1.1.getD v_2.toNat default).getD (IntKind.wrap .i64 (v_3 - 1)).toNat default))))) rfl rfl ?_)
 refine Rg_op rfl (op_pick_f (v := (Value.bool (decide ((slots.getD ((cycles_1.1.getD v_2.toNat default).getD v_3.toNat default).toNat default) ≠ ((cycles_1.1.getD v_2.toNat default).getD (IntKind.wrap .i64 (v_3 - 1)).toNat default))))) rfl rfl ?_)
 refine Rg_nil ?_
 exact hK121 _ _ ⟨(decide ((slots.getD ((cycles_1.1.getD v_2.toNat default).getD v_3.toNat default).toNat default) ≠ ((cycles_1.1.getD v_2.toNat default).getD (IntKind.wrap .i64 (v_3 - 1)).toNat default))), _, rfl, ⟨(by repeat (first | with_reducible exact Out.refl _ _ | refine Out.upd ?_ rfl | refine Out.updL ?_ rfl | refine Out.mix' ?_ rfl | exact Out.refl _ _)), rfl, rfl, trivial⟩, ch133, hs370, hm⟩
 replace hm := bif_f hm hg314
 refine Dw_skip (fun _ _ _ ht => wanted_x rfl (ht 84 rfl) rfl) ?_
 refine Dw_skip (fun _ _ _ ht => wanted_x rfl (ht 84 rfl) rfl) ?_
 refine Dw_skip (fun _ _ _ ht => wanted_x rfl (ht 84 rfl) rfl) ?_
 refine Dw_skip (fun _ _ _ ht => wanted_x rfl (ht 84 rfl) rfl) ?_
 refine Dw_skip (fun _ _ _ ht => wanted_x rfl (ht 84 rfl) rfl) ?_
 refine Dw_skip (fun _ _ _ ht => wanted_x rfl (ht 84 rfl) rfl) ?_
 refine Dw_skip (fun _ _ _ ht => wanted_x rfl (ht 84 rfl) rfl) ?_
 refine Dw_skip (fun _ _ _ ht => wanted_x rfl (ht 84 rfl) rfl) ?_
 refine Dw_skip (fun _ _ _ ht => wanted_x rfl (ht 84 rfl) rfl) ?_
 refine Dw_nil fun w391 g392 hl393 hi394 => ?_
 obtain ⟨-, hst395, -⟩ := hl393
 obtain ⟨hs397, p396⟩ := Step.nx hi394
 rintro _ rfl
 rintro _ rfl
 rintro _ rfl
 rintro _ rfl
 rintro _ rfl
 rintro _ rfl
 rintro _ rfl
 rintro _ rfl
 rintro _ rfl
 rintro _ rfl
 rintro _ rfl
 rintro _ rfl
 rintro _ rfl
 rintro _ rfl
 rintro _ rfl
 rintro _ rfl
 rintro v398 h399
 replace h399 : Vr.vd (vI .i64) _ _ _ _ := h399
 obtain ⟨rfl, Rr⟩ := h399
 rintro _ ⟨p401, rfl, f402⟩
 rintro _ rfl
 rintro _ rfl
 rintro _ rfl
 rintro _ rfl
 rintro _ rfl
 rintro _ rfl
 rintro _ rfl
 rintro _ rfl
 rintro _ rfl
 rintro _ rfl
 rintro _ rfl
 rintro _ rfl
 rintro _ rfl
 rintro _ rfl
 rintro _ rfl
 rintro _ rfl
 have p403 : Step (ks [(some b47, o_g98)] O) w104 (ks [(some b47, o_g98)] O) w391 := hst395.trans p396
 replace f402 := f402.step p396; replace Fc := Fc.step p403; replace Fd := Fd.step p403; replace Fe := Fe.step p403; replace ch67 := ch67.trans p403; replace ch80 := ch80.trans p403; replace ch109 := ch109.trans p403; replace ch133 := ch133.trans p403; clear p403 hs105
 refine Rg_opx rfl (asB_ne rfl rfl) rfl ?_
 refine Rg_opg rfl rfl rfl (op_pick_f (v := (Value.bool false)) rfl rfl ?_)
 refine Rg_op rfl (op_pick_f (v := (Value.bool false)) rfl rfl ?_)
 refine Rg_nil ?_
 exact hK121 _ _ ⟨false, _, rfl, ⟨(by repeat (first | with_reducible exact Out.refl _ _ | refine Out.upd ?_ rfl | refine Out.updL ?_ rfl | refine Out.mix' ?_ rfl | exact Out.refl _ _)), rfl, rfl, trivial⟩, ch133, hs397, hm⟩
 replace hm := bif_f hm hc110
 refine Wp_exit (Wp_seq (Wp_region ?_))
 refine Rg_op rfl (op_move (v := (Value.slice Ae (cycles_1.1.getD v_2.toNat default).length Ce)) rfl ?_)
 refine Rg_op rfl (op_move (v := (Value.slice Ae (cycles_1.1.getD v_2.toNat default).length Ce)) rfl ?_)
 refine Rg_op rfl (op_len Try.underlying22 rfl ?_)
 have rl404 := inK_len Fe
 refine Rg_op rfl (op_subw rfl rfl ?_)
 replace hm := ck_some hm; obtain ⟨hc405, hm⟩ := hm
 refine Rg_op rfl (op_indexAddr (q := (rInt .i64)) ty22 ty3 rfl rfl Fe rfl hc405.1 hc405.2 ?_)
 intro p406 f407
 refine Rg_op rfl (op_loadP ty3 rfl f407 rfl ?_)
 intro v408 h409
 obtain ⟨rfl, Rs⟩ := un_int h409
 refine Rg_op rfl (op_assign (v := (Value.int .i64 ((cycles_1.1.getD v_2.toNat default).getD (IntKind.wrap .i64 (((cycles_1.1.getD v_2.toNat default).length : Int) - 1)).toNat default))) rfl ?_)
 refine Rg_nil (Wp_seq (Wp_seq ?_))
 clear f407
 refine Wp_region ?_
 refine Rg_op rfl (op_move (v := (Value.slice Ac slots.length Cc)) rfl ?_)
 refine Rg_op rfl (op_move (v := (Value.slice Ae (cycles_1.1.getD v_2.toNat default).length Ce)) rfl ?_)
 replace hm := ck_some hm; obtain ⟨hc411, hm⟩ := hm
 refine Rg_op rfl (op_indexAddr (q := (rInt .i64)) ty22 ty3 rfl rfl Fe rfl hc411.1 hc411.2 ?_)
 intro p412 f413
 refine Rg_op rfl (op_loadP ty3 rfl f413 rfl ?_)
 intro v414 h415
 obtain ⟨rfl, Rt⟩ := un_int h415
 replace hm := ck_some hm; obtain ⟨hc417, hm⟩ := hm
 refine Rg_op rfl (op_indexAddr (q := (rInt .i64)) ty22 ty3 rfl rfl Fc rfl hc417.1 hc417.2 ?_)
 intro p418 f419
 refine Rg_op rfl (op_loadP ty3 rfl f419 rfl ?_)
 intro v420 h421
 obtain ⟨rfl, Ru⟩ := un_int h421
 refine Rg_op rfl (op_move (v := (Value.int .i64 ((cycles_1.1.getD v_2.toNat default).getD (IntKind.wrap .i64 (((cycles_1.1.getD v_2.toNat default).length : Int) - 1)).toNat default))) rfl ?_)
 refine Rg_op rfl (op_eql rfl rfl ?_)
 refine Rg_nil ?_
 refine Wp_cond rfl (fun hc423 => ?_) (fun hc423 => ?_)
 replace hm := bif_t hm hc423
 refine Wp_seq ?_
 clear f413 f419
 refine Wp_region ?_
 refine Rg_op rfl (op_move (v := (Value.slice Ae (cycles_1.1.getD v_2.toNat default).length Ce)) rfl ?_)
 replace hm := ck_some hm; obtain ⟨hc424, hm⟩ := hm
 refine Rg_op rfl (op_indexAddr (q := (rInt .i64)) ty22 ty3 rfl rfl Fe rfl hc424.1 hc424.2 ?_)
 intro p425 f426
 refine Rg_op rfl (op_loadP ty3 rfl f426 rfl ?_)
 intro v427 h428
 obtain ⟨rfl, Rv⟩ := un_int h428
 refine Rg_op rfl (op_move (v := (Value.int .i64 least_1)) rfl ?_)
 refine Rg_op rfl (op_neq rfl rfl ?_)
 refine Rg_nil ?_
 refine Wp_cond rfl (fun hc430 => ?_) (fun hc430 => ?_)
 replace hm := bif_t hm hc430
 refine Wp_seq ?_
 clear Fc Fd Fe f426
 refine Wp_region ?_
 refine Rg_op rfl (op_assign (v := (Value.bool false)) rfl ?_)
 refine Rg_nil ?_
 refine Wp_ret ?_
 have hz := step_all hs105
 refine ⟨_, (show Closes [] _ _ from rfl), [(Value.bool false)], ⟨rfl, trivial⟩, hs105.ext, ?_⟩
 exact Vr.eq (a := vB) (x := false) rfl (Option.some.inj hm)
 replace hm := bif_f hm hc430
 refine Wp_skip (Wp_seq (Wp_seq ?_))
 clear Fe f426
 refine Wp_region ?_
 refine Rg_op rfl (op_move (v := (Value.int .i64 least_1)) rfl ?_)
 refine Rg_op rfl (op_move (v := (Value.int .i64 last_1)) rfl ?_)
 refine Rg_op rfl (op_leq rfl rfl ?_)
 refine Rg_nil ?_
 refine Wp_cond rfl (fun hc431 => ?_) (fun hc431 => ?_)
 replace hm := bif_t hm hc431
 refine Wp_seq ?_
 clear Fc Fd
 refine Wp_reset2 [4, 8, 10, 11, 12, 13, 14, 16, 45, 46, 47, 48, 49, 50, 51, 52, 53, 54, 55, 56, 57, 58, 59, 60, 61, 62, 63, 64, 65, 66, 67, 68, 69, 70, 71, 72, 73, 74, 75, 76, 77, 78, 79, 80, 81, 82, 83, 84, 85, 86, 87, 88, 89, 90, 91, 92, 93, 94, 95, 96, 97, 98, 99, 100, 101, 102, 103, 104, 105, 106, 107, 108, 109, 110, 111, 112, 113, 114, 115, 116, 117, 118, 119, 120, 121, 122, 123, 124, 125, 126, 127, 128, 129, 130, 131, 132, 133, 134, 135, 136, 137, 138, 139, 140, 141, 142, 143, 144] [] (updL (mix [4, 8, 10, 11, 12, 13, 14, 16, 43, 44, 45, 46, 47, 48, 49, 50, 51, 52, 53, 54, 55, 56, 57, 58, 59, 60, 61, 62, 63, 64, 65, 66, 67, 68, 69, 70, 71, 72, 73, 74, 75, 76, 77, 78, 79, 80, 81, 82, 83, 84, 85, 86, 87, 88, 89, 90, 91, 92, 93, 94, 95, 96, 97, 98, 99, 100, 101, 102, 103, 104, 105, 106, 107, 108, 109, 110, 111, 112, 113, 114, 115, 116, 117, 118, 119, 120, 121, 122, 123, 124, 125, 126, 127, 128, 129, 130, 131, 132, 133, 134, 135, 136, 137, 138, 139, 140, 141, 142, 143, 144, 145] [] ξ69 (updL ⟨ξ57, []⟩ [(1, (Value.slice Ac slots.length Cc)), (7, (Value.map (some b47))), (8, (Value.int .i64 (-1))), (41, (Value.slice Ad cycles_1.1.length Cd)), (42, (Value.int .i64 (cycles_1.1.length : Int))), (43, (Value.int .i64 0))])) [(8, (Value.int .i64 last_1)), (43, (Value.int .i64 v_2))]) [] (by repeat (first | with_reducible exact Out.refl _ _ | refine Out.upd ?_ rfl | refine Out.updL ?_ rfl | refine Out.mix' ?_ rfl | exact Out.refl _ _)) rfl trivial fun ξ432 => ?_
 refine Wp_region ?_
 refine Rg_op rfl (op_assign (v := (Value.bool false)) rfl ?_)
 refine Rg_nil ?_
 refine Wp_ret ?_
 have hz := step_all hs105
 refine ⟨_, (show Closes [] _ _ from rfl), [(Value.bool false)], ⟨rfl, trivial⟩, hs105.ext, ?_⟩
 exact Vr.eq (a := vB) (x := false) rfl (Option.some.inj hm)
 replace hm := bif_f hm hc431
 refine Wp_skip ?_
 refine Wp_reset2 [4, 8, 10, 11, 12, 13, 14, 16, 45, 46, 47, 48, 49, 50, 51, 52, 53, 54, 55, 56, 57, 58, 59, 60, 61, 62, 63, 64, 65, 66, 67, 68, 69, 70, 71, 72, 73, 74, 75, 76, 77, 78, 79, 80, 81, 82, 83, 84, 85, 86, 87, 88, 89, 90, 91, 92, 93, 94, 95, 96, 97, 98, 99, 100, 101, 102, 103, 104, 105, 106, 107, 108, 109, 110, 111, 112, 113, 114, 115, 116, 117, 118, 119, 120, 121, 122, 123, 124, 125, 126, 127, 128, 129, 130, 131, 132, 133, 134, 135, 136, 137, 138, 139, 140, 141, 142, 143, 144] [] (updL (mix [4, 8, 10, 11, 12, 13, 14, 16, 43, 44, 45, 46, 47, 48, 49, 50, 51, 52, 53, 54, 55, 56, 57, 58, 59, 60, 61, 62, 63, 64, 65, 66, 67, 68, 69, 70, 71, 72, 73, 74, 75, 76, 77, 78, 79, 80, 81, 82, 83, 84, 85, 86, 87, 88, 89, 90, 91, 92, 93, 94, 95, 96, 97, 98, 99, 100, 101, 102, 103, 104, 105, 106, 107, 108, 109, 110, 111, 112, 113, 114, 115, 116, 117, 118, 119, 120, 121, 122, 123, 124, 125, 126, 127, 128, 129, 130, 131, 132, 133, 134, 135, 136, 137, 138, 139, 140, 141, 142, 143, 144, 145] [] ξ69 (updL ⟨ξ57, []⟩ [(1, (Value.slice Ac slots.length Cc)), (7, (Value.map (some b47))), (8, (Value.int .i64 (-1))), (41, (Value.slice Ad cycles_1.1.length Cd)), (42, (Value.int .i64 (cycles_1.1.length : Int))), (43, (Value.int .i64 0))])) [(8, (Value.int .i64 last_1)), (43, (Value.int .i64 v_2))]) [(11, (Value.int .i64 least_1))] (by repeat (first | with_reducible exact Out.refl _ _ | refine Out.upd ?_ rfl | refine Out.updL ?_ rfl | refine Out.mix' ?_ rfl | exact Out.refl _ _)) rfl ⟨rfl, trivial⟩ fun ξ433 => ?_
 refine Wp_region ?_
 refine Rg_op rfl (op_move (v := (Value.int .i64 least_1)) rfl ?_)
 refine Rg_op rfl (op_assign (v := (Value.int .i64 least_1)) rfl ?_)
 refine Rg_nil ?_
 exact hK74 _ _ ⟨least_1, map_3, o_g98, _, rfl, ⟨(by repeat (first | with_reducible exact Out.refl _ _ | refine Out.upd ?_ rfl | refine Out.updL ?_ rfl | refine Out.mix' ?_ rfl | exact Out.refl _ _)), rfl, rfl, trivial⟩, ch80, hs105, Rg, M_g98, hm⟩
 replace hm := bif_f hm hc423
 refine Wp_seq (Wp_seq ?_)
 clear f413 f419
 refine Wp_region ?_
 refine Rg_op rfl (op_move (v := (Value.slice Ac slots.length Cc)) rfl ?_)
 refine Rg_op rfl (op_move (v := (Value.slice Ae (cycles_1.1.getD v_2.toNat default).length Ce)) rfl ?_)
 replace hm := ck_some hm; obtain ⟨hc434, hm⟩ := hm
 refine Rg_op rfl (op_indexAddr (q := (rInt .i64)) ty22 ty3 rfl rfl Fe rfl hc434.1 hc434.2 ?_)
 intro p435 f436
 refine Rg_op rfl (op_loadP ty3 rfl f436 rfl ?_)
 intro v437 h438
 obtain ⟨rfl, Rw⟩ := un_int h438
 replace hm := ck_some hm; obtain ⟨hc440, hm⟩ := hm
 refine Rg_op rfl (op_indexAddr (q := (rInt .i64)) ty22 ty3 rfl rfl Fc rfl hc440.1 hc440.2 ?_)
 intro p441 f442
 refine Rg_op rfl (op_loadP ty3 rfl f442 rfl ?_)
 intro v443 h444
 obtain ⟨rfl, Rx⟩ := un_int h444
 refine Rg_op rfl (op_move (v := (Value.slice Ac slots.length Cc)) rfl ?_)
 refine Rg_op rfl (op_len Try.underlying22 rfl ?_)
 have rl446 := inK_len Fc
 refine Rg_op rfl (op_lss rfl rfl ?_)
 refine Rg_nil ?_
 refine Wp_cond rfl (fun hc447 => ?_) (fun hc447 => ?_)
 replace hm := bif_t hm hc447
 refine Wp_seq ?_
 clear Fc Fd Fe f436 f442
 refine Wp_reset2 [4, 8, 10, 11, 12, 13, 14, 16, 45, 46, 47, 48, 49, 50, 51, 52, 53, 54, 55, 56, 57, 58, 59, 60, 61, 62, 63, 64, 65, 66, 67, 68, 69, 70, 71, 72, 73, 74, 75, 76, 77, 78, 79, 80, 81, 82, 83, 84, 85, 86, 87, 88, 89, 90, 91, 92, 93, 94, 95, 96, 97, 98, 99, 100, 101, 102, 103, 104, 105, 106, 107, 108, 109, 110, 111, 112, 113, 114, 115, 116, 117, 118, 119, 120, 121, 122, 123, 124, 125, 126, 127, 128, 129, 130, 131, 132, 133, 134, 135, 136, 137, 138, 139, 140, 141, 142, 143, 144] [] (updL (mix [4, 8, 10, 11, 12, 13, 14, 16, 43, 44, 45, 46, 47, 48, 49, 50, 51, 52, 53, 54, 55, 56, 57, 58, 59, 60, 61, 62, 63, 64, 65, 66, 67, 68, 69, 70, 71, 72, 73, 74, 75, 76, 77, 78, 79, 80, 81, 82, 83, 84, 85, 86, 87, 88, 89, 90, 91, 92, 93, 94, 95, 96, 97, 98, 99, 100, 101, 102, 103, 104, 105, 106, 107, 108, 109, 110, 111, 112, 113, 114, 115, 116, 117, 118, 119, 120, 121, 122, 123, 124, 125, 126, 127, 128, 129, 130, 131, 132, 133, 134, 135, 136, 137, 138, 139, 140, 141, 142, 143, 144, 145] [] ξ69 (updL ⟨ξ57, []⟩ [(1, (Value.slice Ac slots.length Cc)), (7, (Value.map (some b47))), (8, (Value.int .i64 (-1))), (41, (Value.slice Ad cycles_1.1.length Cd)), (42, (Value.int .i64 (cycles_1.1.length : Int))), (43, (Value.int .i64 0))])) [(8, (Value.int .i64 last_1)), (43, (Value.int .i64 v_2))]) [] (by repeat (first | with_reducible exact Out.refl _ _ | refine Out.upd ?_ rfl | refine Out.updL ?_ rfl | refine Out.mix' ?_ rfl | exact Out.refl _ _)) rfl trivial fun ξ448 => ?_
 refine Wp_region ?_
 refine Rg_op rfl (op_assign (v := (Value.bool false)) rfl ?_)
 refine Rg_nil ?_
 refine Wp_ret ?_
 have hz := step_all hs105
 refine ⟨_, (show Closes [] _ _ from rfl), [(Value.bool false)], ⟨rfl, trivial⟩, hs105.ext, ?_⟩
 exact Vr.eq (a := vB) (x := false) rfl (Option.some.inj hm)
 replace hm := bif_f hm hc447
 refine Wp_skip (Wp_seq ?_)
 clear Fe f436 f442
 refine Wp_reset2 [4, 8, 10, 11, 12, 13, 14, 16, 45, 46, 47, 48, 49, 50, 51, 52, 53, 54, 55, 56, 57, 58, 59, 60, 61, 62, 63, 64, 65, 66, 67, 68, 69, 70, 71, 72, 73, 74, 75, 76, 77, 78, 79, 80, 81, 82, 83, 84, 85, 86, 87, 88, 89, 90, 91, 92, 93, 94, 95, 96, 97, 98, 99, 100, 101, 102, 103, 104, 105, 106, 107, 108, 109, 110, 111, 112, 113, 114, 115, 116, 117, 118, 119, 120, 121, 122, 123, 124, 125, 126, 127, 128, 129, 130, 131, 132, 133, 134, 135, 136, 137, 138, 139, 140, 141, 142, 143, 144] [] (updL (mix [4, 8, 10, 11, 12, 13, 14, 16, 43, 44, 45, 46, 47, 48, 49, 50, 51, 52, 53, 54, 55, 56, 57, 58, 59, 60, 61, 62, 63, 64, 65, 66, 67, 68, 69, 70, 71, 72, 73, 74, 75, 76, 77, 78, 79, 80, 81, 82, 83, 84, 85, 86, 87, 88, 89, 90, 91, 92, 93, 94, 95, 96, 97, 98, 99, 100, 101, 102, 103, 104, 105, 106, 107, 108, 109, 110, 111, 112, 113, 114, 115, 116, 117, 118, 119, 120, 121, 122, 123, 124, 125, 126, 127, 128, 129, 130, 131, 132, 133, 134, 135, 136, 137, 138, 139, 140, 141, 142, 143, 144, 145] [] ξ69 (updL ⟨ξ57, []⟩ [(1, (Value.slice Ac slots.length Cc)), (7, (Value.map (some b47))), (8, (Value.int .i64 (-1))), (41, (Value.slice Ad cycles_1.1.length Cd)), (42, (Value.int .i64 (cycles_1.1.length : Int))), (43, (Value.int .i64 0))])) [(8, (Value.int .i64 last_1)), (43, (Value.int .i64 v_2))]) [(8, (Value.int .i64 last_1)), (11, (Value.int .i64 least_1)), (14, (Value.int .i64 ((cycles_1.1.getD v_2.toNat default).getD (IntKind.wrap .i64 (((cycles_1.1.getD v_2.toNat default).length : Int) - 1)).toNat default)))] (by repeat (first | with_reducible exact Out.refl _ _ | refine Out.upd ?_ rfl | refine Out.updL ?_ rfl | refine Out.mix' ?_ rfl | exact Out.refl _ _)) rfl ⟨rfl, rfl, rfl, trivial⟩ fun ξ449 => ?_
 refine Wp_region ?_
 refine Rg_op rfl (op_move (v := (Value.slice Ac slots.length Cc)) rfl ?_)
 refine Rg_op rfl (op_len Try.underlying22 rfl ?_)
 have rl450 := inK_len Fc
 refine Rg_op rfl (op_move (v := (Value.int .i64 0)) rfl ?_)
 refine Rg_nil (Wp_block ?_)
 refine Wp_reset2 [4, 8, 10, 11, 12, 13, 14, 16, 45, 46, 47, 48, 49, 50, 51, 52, 53, 54, 55, 56, 57, 58, 59, 60, 61, 62, 63, 64, 65, 66, 67, 68, 69, 70, 71, 72, 73, 74, 75, 76, 77, 78, 79, 80, 81, 82, 83, 84, 85, 86, 87, 88, 89, 90, 91, 92, 93, 94, 95, 96, 97, 98, 99, 100, 101, 102, 103, 104, 105, 106, 107, 108, 109, 110, 111, 112, 113, 114, 115, 116, 117, 118, 119, 120, 121, 122, 123, 124, 125, 126, 127, 128, 129, 130, 131, 132, 133, 134, 135, 136, 137, 138, 139, 140, 141, 142, 143, 144] [] (updL (mix [4, 8, 10, 11, 12, 13, 14, 16, 43, 44, 45, 46, 47, 48, 49, 50, 51, 52, 53, 54, 55, 56, 57, 58, 59, 60, 61, 62, 63, 64, 65, 66, 67, 68, 69, 70, 71, 72, 73, 74, 75, 76, 77, 78, 79, 80, 81, 82, 83, 84, 85, 86, 87, 88, 89, 90, 91, 92, 93, 94, 95, 96, 97, 98, 99, 100, 101, 102, 103, 104, 105, 106, 107, 108, 109, 110, 111, 112, 113, 114, 115, 116, 117, 118, 119, 120, 121, 122, 123, 124, 125, 126, 127, 128, 129, 130, 131, 132, 133, 134, 135, 136, 137, 138, 139, 140, 141, 142, 143, 144, 145] [] ξ69 (updL ⟨ξ57, []⟩ [(1, (Value.slice Ac slots.length Cc)), (7, (Value.map (some b47))), (8, (Value.int .i64 (-1))), (41, (Value.slice Ad cycles_1.1.length Cd)), (42, (Value.int .i64 (cycles_1.1.length : Int))), (43, (Value.int .i64 0))])) [(8, (Value.int .i64 last_1)), (43, (Value.int .i64 v_2))]) [(8, (Value.int .i64 last_1)), (11, (Value.int .i64 least_1)), (14, (Value.int .i64 ((cycles_1.1.getD v_2.toNat default).getD (IntKind.wrap .i64 (((cycles_1.1.getD v_2.toNat default).length : Int) - 1)).toNat default))), (131, (Value.slice Ac slots.length Cc)), (132, (Value.int .i64 (slots.length : Int))), (133, (Value.int .i64 0))] (by repeat (first | with_reducible exact Out.refl _ _ | refine Out.upd ?_ rfl | refine Out.updL ?_ rfl | refine Out.mix' ?_ rfl | exact Out.refl _ _)) rfl ⟨rfl, rfl, rfl, rfl, rfl, rfl, trivial⟩ fun ξ452 => ?_
 refine Wp_loopM [4, 16, 133, 134, 135, 136, 137, 138, 139, 140] (fun m fr w' => ∃ (v_5 : Int) (Ebs : Ents), Ebs = [(some b47, o_g98)] ∧ fr [] [(133, (Value.int .i64 v_5))] ∧ Step (ks [(some b47, o_g98)] O) w104 (ks Ebs O) w' ∧ St ⟨w, [], []⟩ O w' Ebs ∧ InK .i64 v_5 ∧ loop1 (m7_overflightlaw38_ClearingMoves_B2 slots cycles_1 last_1 v_2 k72 least_1 map_3) m v_5 = some x) (((slots.length : Int) - 0).toNat + 1) ⟨0, _, rfl, ⟨Out.refl _ _, rfl, rfl, trivial⟩, Step.refl _ _, hs105, (show InK .i64 0 from by decide), hm⟩ ?_ ?_
 rintro _ _ ⟨_, _, _, _, _, _, _, hm⟩; exact loop1_z hm
 rintro m456 K455 hK455 ρ461 w457 ⟨v_5, Ebs, hEbs, hfr460, hst459, hs458, Ry, hm⟩
 obtain ⟨sf453, hsf454, hm⟩ := loop1_s hm; unfold m7_overflightlaw38_ClearingMoves_B2 at hm
 subst hEbs; rw [hfr460.eq]; clear hfr460
 replace Fc := Fc.step hst459; replace Fd := Fd.step hst459; replace ch67 := ch67.trans hst459; replace ch80 := ch80.trans hst459; replace ch109 := ch109.trans hst459
 have ch462 := hst459
 refine Wp_seq (Wp_region ?_)
 refine Rg_op rfl (op_lss rfl rfl ?_)
 refine Rg_nil (Wp_seq ?_)
 refine Wp_cond rfl (fun hc463 => ?_) (fun hc463 => ?_)
 replace hm := bif_t hm hc463
 refine Wp_skip (Wp_seq (Wp_block (Wp_seq (Wp_region ?_))))
 replace hm := ck_some hm; obtain ⟨hc464, hm⟩ := hm
 refine Rg_op rfl (op_indexAddr (q := (rInt .i64)) ty22 ty3 rfl rfl Fc rfl hc464.1 hc464.2 ?_)
 intro p465 f466
 refine Rg_op rfl (op_loadP ty3 rfl f466 rfl ?_)
 intro v467 h468
 obtain ⟨rfl, Rz⟩ := un_int h468
 refine Rg_op rfl (op_assign (v := (Value.int .i64 (slots.getD v_5.toNat default))) rfl ?_)
 refine Rg_nil (Wp_seq ?_)
 clear f466
 refine Wp_region ?_
 refine Rg_op rfl (op_move (v := (Value.int .i64 (slots.getD v_5.toNat default))) rfl ?_)
 refine Rg_op rfl (op_move (v := (Value.int .i64 ((cycles_1.1.getD v_2.toNat default).getD (IntKind.wrap .i64 (((cycles_1.1.getD v_2.toNat default).length : Int) - 1)).toNat default))) rfl ?_)
 refine Rg_op rfl (op_eql rfl rfl ?_)
 refine Rg_nil ?_
 refine Wp_cond rfl (fun hc470 => ?_) (fun hc470 => ?_)
 replace hm := bif_t hm hc470
 refine Wp_seq ?_
 clear Fc Fd
 refine Wp_region ?_
 refine Rg_op rfl (op_assign (v := (Value.bool false)) rfl ?_)
 refine Rg_nil ?_
 refine Wp_ret ?_
 have hz := step_all hs458
 refine ⟨_, (show Closes [] _ _ from rfl), [(Value.bool false)], ⟨rfl, trivial⟩, hs458.ext, ?_⟩
 exact Vr.eq (a := vB) (x := false) rfl (Option.some.inj hm)
 replace hm := bif_f hm hc470
 refine Wp_skip (Wp_region ?_)
 refine Rg_op rfl (op_addw rfl rfl ?_)
 refine Rg_op rfl (op_move (v := (Value.int .i64 (IntKind.wrap .i64 (v_5 + 1)))) rfl ?_)
 refine Rg_nil ?_
 exact hK455 _ _ ⟨(IntKind.wrap .i64 (v_5 + 1)), _, rfl, ⟨(by repeat (first | with_reducible exact Out.refl _ _ | refine Out.upd ?_ rfl | refine Out.updL ?_ rfl | refine Out.mix' ?_ rfl | exact Out.refl _ _)), rfl, rfl, trivial⟩, ch462, hs458, (inK_wrap .i64 _), jnE1 hsf454 hm⟩
 replace hm := bif_f hm hc463
 refine Wp_exit (Wp_seq (Wp_seq (Wp_region ?_)))
 refine Rg_op rfl (op_move (v := (Value.int .i64 least_1)) rfl ?_)
 refine Rg_op rfl (op_move (v := (Value.int .i64 last_1)) rfl ?_)
 refine Rg_op rfl (op_leq rfl rfl ?_)
 refine Rg_nil ?_
 refine Wp_cond rfl (fun hc471 => ?_) (fun hc471 => ?_)
 replace hm := bif_t hm hc471
 refine Wp_seq ?_
 clear Fc Fd
 refine Wp_region ?_
 refine Rg_op rfl (op_assign (v := (Value.bool false)) rfl ?_)
 refine Rg_nil ?_
 refine Wp_ret ?_
 have hz := step_all hs458
 refine ⟨_, (show Closes [] _ _ from rfl), [(Value.bool false)], ⟨rfl, trivial⟩, hs458.ext, ?_⟩
 exact Vr.eq (a := vB) (x := false) rfl (Option.some.inj hm)
 replace hm := bif_f hm hc471
 refine Wp_skip (Wp_region ?_)
 refine Rg_op rfl (op_move (v := (Value.int .i64 least_1)) rfl ?_)
 refine Rg_op rfl (op_assign (v := (Value.int .i64 least_1)) rfl ?_)
 refine Rg_nil ?_
 exact hK74 _ _ ⟨least_1, map_3, o_g98, _, rfl, ⟨(by repeat (first | with_reducible exact Out.refl _ _ | refine Out.upd ?_ rfl | refine Out.updL ?_ rfl | refine Out.mix' ?_ rfl | exact Out.refl _ _)), rfl, rfl, trivial⟩, ch80, hs458, Rg, M_g98, hm⟩
 replace hm := bif_f hm hc68
 refine Wp_exit (Wp_seq (Wp_seq ?_))
 clear Fd
 refine Wp_region ?_
 refine Rg_op rfl (op_move (v := (Value.slice Ac slots.length Cc)) rfl ?_)
 refine Rg_op rfl (op_len Try.underlying22 rfl ?_)
 have rl472 := inK_len Fc
 refine Rg_op rfl (op_move (v := (Value.int .i64 0)) rfl ?_)
 refine Rg_nil (Wp_block ?_)
 refine Wp_reset [] [(7, (Value.map (some b47))), (146, (Value.slice Ac slots.length Cc)), (147, (Value.int .i64 (slots.length : Int))), (148, (Value.int .i64 0))] rfl ⟨rfl, rfl, rfl, rfl, trivial⟩ fun ξ474 => ?_
 refine Wp_loopM [4, 17, 18, 148, 149, 150, 151, 152, 153, 154, 155, 156, 157, 158, 159, 160] (fun m fr w' => ∃ (v_6 : Int) (Ebs : Ents), Ebs = [(some b47, o_g56)] ∧ fr [] [(148, (Value.int .i64 v_6))] ∧ Step (ks [(some b47, o_g56)] O) w62 (ks Ebs O) w' ∧ St ⟨w, [], []⟩ O w' Ebs ∧ InK .i64 v_6 ∧ loop1 (m7_overflightlaw38_ClearingMoves_B3 slots map_1) m v_6 = some x) (((slots.length : Int) - 0).toNat + 1) ⟨0, _, rfl, ⟨Out.refl _ _, rfl, rfl, trivial⟩, Step.refl _ _, hs63, (show InK .i64 0 from by decide), hm⟩ ?_ ?_
 rintro _ _ ⟨_, _, _, _, _, _, _, hm⟩; exact loop1_z hm
 rintro m478 K477 hK477 ρ483 w479 ⟨v_6, Ebs, hEbs, hfr482, hst481, hs480, Ra1, hm⟩
 obtain ⟨sf475, hsf476, hm⟩ := loop1_s hm; unfold m7_overflightlaw38_ClearingMoves_B3 at hm
 subst hEbs; rw [hfr482.eq]; clear hfr482
 replace Fc := Fc.step hst481; replace ch67 := ch67.trans hst481
 have ch484 := hst481
 refine Wp_seq (Wp_region ?_)
 refine Rg_op rfl (op_lss rfl rfl ?_)
 refine Rg_nil (Wp_seq ?_)
 refine Wp_cond rfl (fun hc485 => ?_) (fun hc485 => ?_)
 replace hm := bif_t hm hc485
 refine Wp_skip (Wp_seq (Wp_block (Wp_seq (Wp_region ?_))))
 refine Rg_op rfl (op_move (v := (Value.int .i64 v_6)) rfl ?_)
 replace hm := ck_some hm; obtain ⟨hc486, hm⟩ := hm
 refine Rg_op rfl (op_indexAddr (q := (rInt .i64)) ty22 ty3 rfl rfl Fc rfl hc486.1 hc486.2 ?_)
 intro p487 f488
 refine Rg_op rfl (op_loadP ty3 rfl f488 rfl ?_)
 intro v489 h490
 obtain ⟨rfl, Rb1⟩ := un_int h490
 refine Rg_op rfl (op_assign (v := (Value.int .i64 v_6)) rfl ?_)
 refine Rg_op rfl (op_assign (v := (Value.int .i64 (slots.getD v_6.toNat default))) rfl ?_)
 refine Rg_nil (Wp_seq ?_)
 clear f488
 refine Wp_region ?_
 refine Rg_op rfl (op_move (v := (Value.map (some b47))) rfl ?_)
 refine Rg_op rfl (op_move (v := (Value.int .i64 v_6)) rfl ?_)
 refine Rg_op rfl (op_lookup (q := .i64) (m := mvB) (z := false) Try.underlying39 Try.underlying3 Try.zeroValue4 (hs480.get (i := 0) rfl) M_g56 rfl rfl ?_)
 refine Rg_op rfl (op_move (v := (Value.int .i64 (slots.getD v_6.toNat default))) rfl ?_)
 refine Rg_op rfl (op_move (v := (Value.int .i64 v_6)) rfl ?_)
 refine Rg_op rfl (op_neq rfl rfl ?_)
 refine Rg_op rfl (op_neqb Try.underlying4 rfl rfl ?_)
 refine Rg_nil ?_
 refine Wp_cond rfl (fun hc492 => ?_) (fun hc492 => ?_)
 replace hm := bif_t hm hc492
 refine Wp_seq ?_
 clear Fc
 refine Wp_region ?_
 refine Rg_op rfl (op_assign (v := (Value.bool false)) rfl ?_)
 refine Rg_nil ?_
 refine Wp_ret ?_
 have hz := step_all hs480
 refine ⟨_, (show Closes [] _ _ from rfl), [(Value.bool false)], ⟨rfl, trivial⟩, hs480.ext, ?_⟩
 exact Vr.eq (a := vB) (x := false) rfl (Option.some.inj hm)
 replace hm := bif_f hm hc492
 refine Wp_skip (Wp_region ?_)
 refine Rg_op rfl (op_addw rfl rfl ?_)
 refine Rg_op rfl (op_move (v := (Value.int .i64 (IntKind.wrap .i64 (v_6 + 1)))) rfl ?_)
 refine Rg_nil ?_
 exact hK477 _ _ ⟨(IntKind.wrap .i64 (v_6 + 1)), _, rfl, ⟨(by repeat (first | with_reducible exact Out.refl _ _ | refine Out.upd ?_ rfl | refine Out.updL ?_ rfl | refine Out.mix' ?_ rfl | exact Out.refl _ _)), rfl, rfl, trivial⟩, ch484, hs480, (inK_wrap .i64 _), jnE1 hsf476 hm⟩
 replace hm := bif_f hm hc485
 refine Wp_exit (Wp_seq ?_)
 obtain ⟨hs493, p494⟩ := hs480.sub (bs' := []) (.cons _ List.Sublist.slnil)
 clear Fc
 replace ch67 := ch67.trans p494; replace ch484 := ch484.trans p494; clear p494 hs480
 refine Wp_region ?_
 refine Rg_op rfl (op_assign (v := (Value.bool true)) rfl ?_)
 refine Rg_nil ?_
 refine Wp_ret ?_
 have hz := step_all hs493
 refine ⟨_, (show Closes [] _ _ from rfl), [(Value.bool true)], ⟨rfl, trivial⟩, hs493.ext, ?_⟩
 exact Vr.eq (a := vB) (x := true) rfl (Option.some.inj hm)
 intro K21 hK21
 have ch495 := Step.refl (ks [(some b1, Obj.cells [(Value.int .i64 r_.slots), (Value.slice Aa r_.owners.length Ca), (Value.slice Ab r_.costs.length Cb)].toArray 25)] O) w8
 refine Wp_region ?_
 refine Rg_op rfl (op_loadA (cs := [(Value.int .i64 r_.slots), (Value.slice Aa r_.owners.length Ca), (Value.slice Ab r_.costs.length Cb)]) (vs := [(Value.int .i64 r_.slots), (Value.slice Aa r_.owners.length Ca), (Value.slice Ab r_.costs.length Cb)]) (i := 0) ty25 hs11 rfl rfl rfl rfl ?_)
 replace hm := bd hm; obtain ⟨few_1, hv496, hm⟩ := hm
 refine Rg_op rfl (op_call Try.call11 (c11_overflightref38_Few (r_ := r_) hs11.ltw Ra Fa Fb hv496) rfl ?_)
 rintro v497 w498 ⟨hx499, h500⟩
 have hs501 := hs11.call hx499
 have p502 := Step.ext (O := ks [(some b1, Obj.cells [(Value.int .i64 r_.slots), (Value.slice Aa r_.owners.length Ca), (Value.slice Ab r_.costs.length Cb)].toArray 25)] O) hx499
 clear hx499
 replace Fa := Fa.step p502; replace Fb := Fb.step p502; replace Fc := Fc.step p502; replace ch495 := ch495.trans p502; clear p502 hs11
 obtain rfl := h500
 refine Rg_op rfl (op_not rfl ?_)
 refine Rg_op rfl (op_move (v := (Value.bool (!few_1))) rfl ?_)
 refine Rg_case (fun hg504 => ?_) (fun hg504 => ?_)
 replace hm := bif_t hm hg504
 iterate 3 refine Rg_opx rfl (asB_ne rfl rfl) rfl ?_
 refine Rg_op rfl (op_pick_t (v := (Value.bool true)) rfl rfl ?_)
 refine Rg_nil ?_
 exact hK21 _ _ ⟨true, _, rfl, ⟨(by repeat (first | with_reducible exact Out.refl _ _ | refine Out.upd ?_ rfl | refine Out.updL ?_ rfl | refine Out.mix' ?_ rfl | exact Out.refl _ _)), rfl, rfl, trivial⟩, ch495, hs501, hm⟩
 replace hm := bif_f hm hg504
 refine Rg_opg rfl rfl rfl (op_move (v := (Value.slice Ac slots.length Cc)) rfl ?_)
 refine Rg_opg rfl rfl rfl (op_len Try.underlying22 rfl ?_)
 have rl505 := inK_len Fc
 refine Rg_opg rfl rfl rfl (op_gtr rfl rfl ?_)
 refine Rg_op rfl (op_pick_f (v := (Value.bool (decide (20 < (slots.length : Int))))) rfl rfl ?_)
 refine Rg_nil ?_
 exact hK21 _ _ ⟨(decide (20 < (slots.length : Int))), _, rfl, ⟨(by repeat (first | with_reducible exact Out.refl _ _ | refine Out.upd ?_ rfl | refine Out.updL ?_ rfl | refine Out.mix' ?_ rfl | exact Out.refl _ _)), rfl, rfl, trivial⟩, ch495, hs501, hm⟩

end Go.Fx
/- What the models of functions compute: loops over lists, checks, meetings. No program in sight. -/
set_option linter.unusedSimpArgs false
set_option linter.unusedVariables false
namespace Go.Fx
open Go Go.RowKit

section
variable {R α σ : Type}
@[simp] theorem jn_eq {κ : Type _} (k : κ) (f : κ → Option R) : jn k f = f k := rfl
theorem ck_eq {c : Prop} [Decidable c] {m : Option R} (h : c) : ck c m = m := if_pos h
@[simp] theorem ck_True {m : Option R} : ck True m = m := if_pos trivial
theorem wrapN {i : Nat} (h : i < 9223372036854775808) : IntKind.i64.wrap (i : Int) = (i : Int) := wrap_i64 (by omega) (by omega)
theorem wrapS {i : Nat} (h : i + 1 < 9223372036854775808) : IntKind.i64.wrap ((i : Int) + 1) = (i : Int) + 1 := wrap_i64 (by omega) (by omega)
/-- a loop that goes up an index over a list: L fuel index state -/
theorem up_list {L : Nat → Int → σ → Option R} (I : Nat → σ → Prop) (F : Nat → List α → σ → Option R) (l : List α) (hl : l.length < 9223372036854775807)
    (hE : ∀ n s, I l.length s → L (n + 1) (l.length : Nat) s = F l.length [] s)
    (hS : ∀ n (i : Nat) s x t, i < l.length → l[i]? = some x → IntKind.i64.wrap ((i : Int) + 1) = (i : Int) + 1 → I i s →
      (∀ s, I (i + 1) s → L n ((i : Int) + 1) s = F (i + 1) t s) → L (n + 1) (i : Int) s = F i (x :: t) s) :
    ∀ (fuel : Nat) s, l.length < fuel → I 0 s → L fuel 0 s = F 0 l s := by
  have main : ∀ (t : List α) (i fuel : Nat) s, l.drop i = t → i ≤ l.length → l.length - i < fuel → I i s → L fuel (i : Int) s = F i t s := by
    intro t
    induction t with
    | nil =>
      intro i fuel s hd hi hf hI
      have : i = l.length := by have := congrArg List.length hd; simp at this; omega
      subst this
      obtain ⟨n, rfl⟩ : ∃ n, fuel = n + 1 := ⟨fuel - 1, by omega⟩
      exact hE n s hI
    | cons x t ih =>
      intro i fuel s hd hi hf hI
      have hlt : i < l.length := by have := congrArg List.length hd; simp at this; omega
      obtain ⟨n, rfl⟩ : ∃ n, fuel = n + 1 := ⟨fuel - 1, by omega⟩
      have hx : l[i]? = some x := by rw [← List.head?_drop, hd]; rfl
      refine hS n i s x t hlt hx (wrapS (by omega)) hI fun s' hI' => (ih (i + 1) n s' ?_ (by omega) (by omega) hI')
      rw [← List.drop_drop, hd]; rfl
  intro fuel s hf hI
  exact main l 0 fuel s rfl (by omega) (by omega) hI

theorem getD_of {l : List α} {i : Nat} {x d : α} (h : l[i]? = some x) : l.getD i d = x := by simp [List.getD, h]

/-- a loop that goes up an index over a list, no state -/
theorem up_list0 {B : (Int → Option R) → Int → Option R} (F : List α → Option R) (l : List α) (hl : l.length < 9223372036854775807)
    (hE : ∀ sf, B sf (l.length : Nat) = F [])
    (hS : ∀ sf (i : Nat) x t, i < l.length → l[i]? = some x → IntKind.i64.wrap ((i : Int) + 1) = (i : Int) + 1 →
      sf ((i : Int) + 1) = F t → B sf (i : Int) = F (x :: t))
    {fuel : Nat} (hf : l.length < fuel) : loop1 B fuel 0 = F l := by
  refine up_list (L := fun n i (_ : Unit) => loop1 B n i) (fun _ _ => True) (fun _ t _ => F t) l hl ?_ ?_ fuel () hf trivial
  · intro n _ _; show loop1 B (n + 1) _ = _; rw [loop1_succ]; exact hE _
  · intro n i _ x t h1 h2 h3 _ ih; show loop1 B (n + 1) _ = _; rw [loop1_succ]; exact hS _ i x t h1 h2 h3 (ih () trivial)
/-- a state first, then the index -/
theorem up_listB {B : (σ → Int → Option R) → σ → Int → Option R} (I : Nat → σ → Prop) (F : Nat → List α → σ → Option R) (l : List α) (hl : l.length < 9223372036854775807)
    (hE : ∀ sf s, I l.length s → B sf s (l.length : Nat) = F l.length [] s)
    (hS : ∀ sf (i : Nat) s x t, i < l.length → l[i]? = some x → IntKind.i64.wrap ((i : Int) + 1) = (i : Int) + 1 → I i s →
      (∀ s, I (i + 1) s → sf s ((i : Int) + 1) = F (i + 1) t s) → B sf s (i : Int) = F i (x :: t) s)
    {fuel : Nat} {s : σ} (hf : l.length < fuel) (hI : I 0 s) : loop2 B fuel s 0 = F 0 l s := by
  refine up_list (L := fun n i s => loop2 B n s i) I F l hl ?_ ?_ fuel s hf hI
  · intro n s h; show loop2 B (n + 1) _ _ = _; rw [loop2_succ]; exact hE _ _ h
  · intro n i s x t h1 h2 h3 h4 ih; show loop2 B (n + 1) _ _ = _; rw [loop2_succ]; exact hS _ i s x t h1 h2 h3 h4 ih

/-- the same, where the answer needs the index -/
theorem up_listI {B : (Int → Option R) → Int → Option R} (F : Nat → List α → Option R) (l : List α) (hl : l.length < 9223372036854775807)
    (hE : ∀ sf, B sf (l.length : Nat) = F l.length [])
    (hS : ∀ sf (i : Nat) x t, i < l.length → l[i]? = some x → IntKind.i64.wrap ((i : Int) + 1) = (i : Int) + 1 →
      sf ((i : Int) + 1) = F (i + 1) t → B sf (i : Int) = F i (x :: t))
    {fuel : Nat} (hf : l.length < fuel) : loop1 B fuel 0 = F 0 l := by
  refine up_list (L := fun n i (_ : Unit) => loop1 B n i) (fun _ _ => True) (fun i t _ => F i t) l hl ?_ ?_ fuel () hf trivial
  · intro n _ _; show loop1 B (n + 1) _ = _; rw [loop1_succ]; exact hE _
  · intro n i _ x t h1 h2 h3 _ ih; show loop1 B (n + 1) _ = _; rw [loop1_succ]; exact hS _ i x t h1 h2 h3 (ih () trivial)
end
end Go.Fx
/- Chapter 37, no program in sight: all exchanges of some flights, in order. -/
set_option linter.unusedSimpArgs false
set_option linter.unusedVariables false
namespace Go.Fx
open Go Go.RowKit
/-- all ways to go on from b with k more, out of fl, all different, allowed at their place -/
def dv (fl : List Int) (ok : Nat → Int → Bool) : Nat → List Int → List (List Int)
  | 0, b => [b]
  | k + 1, b => fl.flatMap fun s => bif ok b.length s && !b.contains s then dv fl ok k (b ++ [s]) else []
/-- t may follow b -/
def gd (fl : List Int) (ok : Nat → Int → Bool) : List Int → List Int → Prop
  | _, [] => True
  | b, s :: t => s ∈ fl ∧ ok b.length s = true ∧ s ∉ b ∧ gd fl ok (b ++ [s]) t
theorem mem_dv {fl : List Int} {ok : Nat → Int → Bool} : ∀ {k : Nat} {b x : List Int}, x ∈ dv fl ok k b ↔ ∃ t, x = b ++ t ∧ t.length = k ∧ gd fl ok b t := by
  intro k
  induction k with
  | zero =>
    intro b x
    simp only [dv, List.mem_singleton]
    constructor
    · rintro rfl; exact ⟨[], by simp, rfl, trivial⟩
    · rintro ⟨t, rfl, ht, _⟩; rw [List.length_eq_zero_iff.1 ht]; simp
  | succ k ih =>
    intro b x
    simp only [dv, List.mem_flatMap]
    constructor
    · rintro ⟨s, hs, hx⟩
      cases hc : (ok b.length s && !b.contains s)
      · rw [hc] at hx; cases hx
      · rw [hc, cond_true, ih] at hx
        obtain ⟨t, rfl, ht, hg⟩ := hx
        simp only [Bool.and_eq_true, Bool.not_eq_true', List.contains_eq_mem, decide_eq_false_iff_not] at hc
        exact ⟨s :: t, by simp, by simp [ht], hs, hc.1, hc.2, hg⟩
    · rintro ⟨t, rfl, ht, hg⟩
      cases t with
      | nil => cases ht
      | cons s t =>
        obtain ⟨h1, h2, h3, h4⟩ := hg
        refine ⟨s, h1, ?_⟩
        have hc : (ok b.length s && !b.contains s) = true := by simp [h2, h3]
        rw [hc, cond_true, ih]
        exact ⟨t, by simp, by simpa using ht, h4⟩
/-- the sum of what belongs to o -/
def csum (own : Int → Int) (cost : Int → Int → Int) (o : Int) : List (Int × Int) → Int
  | [] => 0
  | (f, s) :: t => (if own f = o then cost f s else 0) + csum own cost o t
theorem csum_append (own : Int → Int) (cost : Int → Int → Int) (o : Int) (l m : List (Int × Int)) : csum own cost o (l ++ m) = csum own cost o l + csum own cost o m := by
  induction l with
  | nil => simp [csum]
  | cons p t ih => obtain ⟨f, s⟩ := p; simp only [List.cons_append, csum, ih]; omega
end Go.Fx
/- The plain laws of chapter 37: what the functions compute. -/
set_option linter.unusedSimpArgs false
set_option linter.unusedVariables false
namespace Go.Fx
open Go Go.RowKit
theorem all_range' {p : Nat → Bool} (i n : Nat) : (List.range' i (n + 1)).all p = (p i && (List.range' (i + 1) n).all p) := by rw [List.range'_succ]; rfl
theorem all_range {p : Nat → Bool} (n : Nat) : (List.range n).all p = (List.range' 0 n).all p := by rw [List.range_eq_range']
/-- the first index from i where g holds, or -1 -/
def fidx {α} (g : α → Bool) : Nat → List α → Int
  | _, [] => -1
  | i, x :: t => bif g x then (i : Int) else fidx g (i + 1) t
theorem fidx_any {α} (g : α → Bool) (l : List α) (i : Nat) : decide (0 ≤ fidx g i l) = l.any g := by
  induction l generalizing i with
  | nil => rfl
  | cons x t ih => cases h : g x <;> simp [fidx, h, ih]
theorem m51_eq (s : List Int) (f : Int → Option Bool) (g : Int → Bool) (hf : ∀ x ∈ s, f x = some (g x)) (hl : s.length < 9223372036854775807) : m51_slices_ContainsFuncint_int_ s f = some (s.any g) := by
  have : m70_slices_IndexFuncint_int_ s f = some (fidx g 0 s) := by
    unfold m70_slices_IndexFuncint_int_
    refine up_listI (fun i t => some (fidx g i t)) s hl ?_ ?_ (by omega)
    · intro sf; unfold m70_slices_IndexFuncint_int__B0; simp [fidx]
    · intro sf i x t h1 h2 h3 ih; unfold m70_slices_IndexFuncint_int__B0; obtain ⟨_, rfl⟩ := List.getElem?_eq_some_iff.1 h2
      have hfi := hf s[i] (List.getElem_mem _)
      cases h : g s[i] <;> simp [h1, h3, ih, hfi, h, fidx, ck_eq]
  unfold m51_slices_ContainsFuncint_int_; rw [this]; simp [fidx_any]
theorem m48_eq (s : List Int) (v : Int) (hl : s.length < 9223372036854775807) : m48_slices_Containsint_int_ s v = some (s.any fun x => decide (v = x)) := by
  have : m68_slices_Indexint_int_ s v = some (fidx (fun x => decide (v = x)) 0 s) := by
    unfold m68_slices_Indexint_int_
    refine up_listI (fun i t => some (fidx (fun x => decide (v = x)) i t)) s hl ?_ ?_ (by omega)
    · intro sf; unfold m68_slices_Indexint_int__B0; simp [fidx]
    · intro sf i x t h1 h2 h3 ih; unfold m68_slices_Indexint_int__B0; obtain ⟨_, rfl⟩ := List.getElem?_eq_some_iff.1 h2
      by_cases h : v = s[i]
      · have g1 : s.getD (i : Int).toNat default = s[i] := by simp [h1]
        simp only [show (i : Int) < (s.length : Int) by omega, decide_true, cond_true, g1]
        rw [ck_eq (by simp)]; simp [← h, fidx]
      · simp [h1, h3, ih, h, fidx, ck_eq]
  unfold m48_slices_Containsint_int_; rw [this]; simp [fidx_any]
def badC (c : Int) : Bool := decide (c < -1) || decide (1048576 < c)
theorem m52_eq (c : Int) (hc : InK .i64 c) : m52_coalition_Check_2 c (fun x24 x25 => m50_coalition_Check_1 x24 x25) = some (badC c) := by
  have h1 := hc.1; have h2 := hc.2
  simp [IntKind.min, IntKind.max, IntKind.signed, IntKind.bits] at h1 h2
  unfold m52_coalition_Check_2 m50_coalition_Check_1 badC
  by_cases hm : c = 9223372036854775807
  · subst hm; rfl
  · have w : IntKind.i64.wrap (c + 1) = c + 1 := wrap_i64 (by omega) (by omega)
    rw [w]
    by_cases k1 : c < -1
    · have : c + 1 < 0 := by omega
      simp [k1, this]
    · have : ¬ c + 1 < 0 := by omega
      have e : (1048577 < c + 1) = (1048576 < c) := by apply propext; omega
      simp only [k1, this, e, decide_false, cond_false, Bool.false_or, Option.bind_some]
/-- flight i of a round is not as it should be -/
def rowBad (r : XRound) (i : Nat) : Bool :=
  (decide (r.owners.getD i default < 0) || decide (7 < r.owners.getD i default)) || (!decide (((r.costs.getD i default).length : Int) = r.slots) || (decide ((r.costs.getD i default).getD i default < 0) || (r.costs.getD i default).any badC))
def shapeB (r : XRound) : Bool := !(decide (r.slots < 1) || (decide (8 < r.slots) || (decide (r.slots < (r.owners.length : Int)) || decide ((r.costs.length : Int) ≠ (r.owners.length : Int)))))
/-- what Check answers -/
def valB (r : XRound) : Bool := shapeB r && (List.range r.owners.length).all fun i => !rowBad r i
theorem shape_props {r : XRound} (h : shapeB r = true) : 1 ≤ r.slots ∧ r.slots ≤ 8 ∧ (r.owners.length : Int) ≤ r.slots ∧ r.costs.length = r.owners.length := by
  unfold shapeB at h; simp at h; omega
theorem m25_eq (r : XRound) (hs : smXRound r) : m25_coalition_Check r = some (bif valB r then 0 else 370) := by
  have hcl : r.costs.length < 9223372036854775807 := by have := hs.2.2.1; omega
  unfold m25_coalition_Check
  have main : shapeB r = true → loop1 (m25_coalition_Check_B0 r) (((r.costs.length : Int) - 0).toNat + 1) 0 = some (bif (List.range r.owners.length).all (fun i => !rowBad r i) then 0 else 370) := by
    intro hsh
    obtain ⟨s1, s2, s3, s4⟩ := shape_props hsh
    rw [all_range, ← s4]
    refine up_listI (fun i t => some (bif (List.range' i t.length).all (fun i => !rowBad r i) then 0 else 370)) r.costs hcl ?_ ?_ (show r.costs.length < ((r.costs.length : Int) - 0).toNat + 1 by omega)
    · intro sf; unfold m25_coalition_Check_B0; simp
    · intro sf i x t h1 h2 h3 ih
      have g0 : r.costs.getD (i : Int).toNat default = r.costs.getD i default := rfl
      have g1 : r.owners.getD (i : Int).toNat default = r.owners.getD i default := rfl
      have g2 : (r.costs.getD i default).getD (i : Int).toNat default = (r.costs.getD i default).getD i default := rfl
      have hrow : r.costs.getD i default ∈ r.costs := by rw [show r.costs.getD i default = r.costs[i] from by simp [h1]]; exact List.getElem_mem _
      have hrl := (hs.2.2.2 _ hrow)
      rw [List.length_cons, all_range']
      unfold m25_coalition_Check_B0
      have c1 : (i : Int) < (r.costs.length : Int) := by omega
      simp only [c1, decide_true, cond_true, jn_eq, g0, g1, g2, h3, ih]
      rw [ck_eq (by simp), ck_eq (by omega)]
      have m45 := m51_eq (r.costs.getD i default) (fun x286 => m52_coalition_Check_2 x286 (fun x24 x25 => m50_coalition_Check_1 x24 x25)) badC (fun x hx => m52_eq x (hrl.2 x hx)) (by have := hrl.1; omega)
      rw [m45]
      have hb : rowBad r i = ((decide (r.owners.getD i default < 0) || decide (7 < r.owners.getD i default)) || (!decide (((r.costs.getD i default).length : Int) = r.slots) || (decide ((r.costs.getD i default).getD i default < 0) || (r.costs.getD i default).any badC))) := rfl
      rw [hb]
      generalize (List.range' (i + 1) t.length).all (fun i => !rowBad r i) = rest
      clear hb ih hrl hrow m45 g0 g1 g2 hs
      generalize r.costs.getD i default = row
      generalize r.owners.getD i default = o
      generalize row.getD i default = dg
      generalize row.any badC = bb
      unfold m50_coalition_Check_1
      by_cases k1 : o < 0
      · simp [k1]
      by_cases k2 : 7 < o
      · simp [k1, k2]
      by_cases k3 : (row.length : Int) = r.slots
      · rw [ck_eq (by omega)]
        by_cases k4 : dg < 0
        · simp [k1, k2, k3, k4]
        · cases bb <;> simp [k1, k2, k3, k4]
      · simp [k1, k2, k3]
  simp only [jn_eq]
  unfold valB
  cases hsh : shapeB r
  · unfold shapeB at hsh
    by_cases k1 : r.slots < 1
    · simp [k1]
    by_cases k2 : 8 < r.slots
    · simp [k1, k2]
    by_cases k3 : r.slots < (r.owners.length : Int)
    · simp [k1, k2, k3]
    by_cases k4 : (r.costs.length : Int) = (r.owners.length : Int)
    · simp [k1, k2, k3, k4] at hsh
    · simp [k1, k2, k3, k4]
  · have hm := main hsh
    obtain ⟨s1, s2, s3, s4⟩ := shape_props hsh
    have k1 : ¬ r.slots < 1 := by omega
    have k2 : ¬ 8 < r.slots := by omega
    have k3 : ¬ r.slots < (r.owners.length : Int) := by omega
    have k4 : (r.costs.length : Int) = (r.owners.length : Int) := by omega
    simp only [k1, k2, k3, k4, decide_false, cond_false, ne_eq, not_true_eq_false, Bool.true_and]
    rw [k4] at hm; exact hm
structure Val (r : XRound) : Prop where
  s1 : 1 ≤ r.slots
  s2 : r.slots ≤ 8
  s3 : (r.owners.length : Int) ≤ r.slots
  s4 : r.costs.length = r.owners.length
  own : ∀ i < r.owners.length, 0 ≤ r.owners.getD i default ∧ r.owners.getD i default < 8
  row : ∀ i < r.owners.length, ((r.costs.getD i default).length : Int) = r.slots
  diag : ∀ i < r.owners.length, 0 ≤ (r.costs.getD i default).getD i default
  cost : ∀ i < r.owners.length, ∀ c ∈ r.costs.getD i default, -1 ≤ c ∧ c ≤ 1048576
theorem Val.of {r : XRound} (h : valB r = true) : Val r := by
  unfold valB at h
  simp only [Bool.and_eq_true, List.all_eq_true, List.mem_range] at h
  obtain ⟨s1, s2, s3, s4⟩ := shape_props h.1
  have hb : ∀ i < r.owners.length, _ := fun i hi => h.2 i hi
  refine ⟨s1, s2, s3, s4, fun i hi => ?_, fun i hi => ?_, fun i hi => ?_, fun i hi c hc => ?_⟩ <;> (have := hb i hi; unfold rowBad at this; simp only [Bool.not_eq_true', Bool.or_eq_false_iff, Bool.not_eq_false', decide_eq_false_iff_not, decide_eq_true_eq, List.any_eq_false] at this; obtain ⟨⟨p1, p2⟩, p3, p4, p5⟩ := this)
  · omega
  · exact p3
  · omega
  · have := p5 c hc; simp [badC] at this; omega
end Go.Fx
/- Chapter 37: validity, few, assignments, costs. -/
set_option linter.unusedSimpArgs false
set_option linter.unusedVariables false
namespace Go.Fx
open Go Go.RowKit
theorem any_range' {p : Nat → Bool} (i n : Nat) : (List.range' i (n + 1)).any p = (p i || (List.range' (i + 1) n).any p) := by rw [List.range'_succ]; rfl
theorem getD_getElem {α} [Inhabited α] {l : List α} {i : Nat} (h : i < l.length) : l.getD i default = l[i] := by simp [h]
theorem getD_mem {α} [Inhabited α] {l : List α} {i : Nat} (h : i < l.length) : l.getD i default ∈ l := by rw [getD_getElem h]; exact List.getElem_mem _
def badK (row : List Int) (i k : Nat) : Bool := decide (row.getD k default < -1) || (decide (1048576 < row.getD k default) || (decide (k = i) && decide (row.getD k default < 0)))
theorem badK_any {row : List Int} {i : Nat} (h : i < row.length) : (List.range' 0 row.length).any (badK row i) = (decide (row.getD i default < 0) || row.any badC) := by
  rw [Bool.eq_iff_iff]
  simp only [List.any_eq_true, Bool.or_eq_true, decide_eq_true_eq, List.mem_range'_1, Nat.zero_le, true_and, Nat.zero_add]
  constructor
  · rintro ⟨k, hk, hb⟩
    unfold badK at hb
    simp only [Bool.or_eq_true, Bool.and_eq_true, decide_eq_true_eq] at hb
    rcases hb with hb | hb | ⟨rfl, hb⟩
    · exact .inr ⟨_, getD_mem hk, by unfold badC; simp only [← getD_getElem hk, hb, decide_true, Bool.true_or, Bool.or_true]⟩
    · exact .inr ⟨_, getD_mem hk, by unfold badC; simp only [← getD_getElem hk, hb, decide_true, Bool.true_or, Bool.or_true]⟩
    · exact .inl hb
  · rintro (hb | ⟨c, hc, hb⟩)
    · exact ⟨i, h, by simp only [badK, hb, decide_true, Bool.and_true, Bool.or_true]⟩
    · obtain ⟨k, hk, rfl⟩ := List.getElem_of_mem hc
      refine ⟨k, hk, ?_⟩
      unfold badC at hb; simp only [Bool.or_eq_true, decide_eq_true_eq] at hb
      unfold badK; rw [getD_getElem hk]
      rcases hb with hb | hb <;> simp [hb]
theorem m54_eq (r : XRound) (hs : smXRound r) : m54_overflightref37_Valid r = some (valB r) := by
  have hcl : r.owners.length < 9223372036854775807 := by have := hs.2.1.1; omega
  unfold m54_overflightref37_Valid
  have main : shapeB r = true → loop1 (m54_overflightref37_Valid_B0 r) (((r.owners.length : Int) - 0).toNat + 1) 0 = some ((List.range r.owners.length).all (fun i => !rowBad r i)) := by
    intro hsh
    obtain ⟨s1, s2, s3, s4⟩ := shape_props hsh
    rw [all_range]
    refine up_listI (fun i t => some ((List.range' i t.length).all (fun i => !rowBad r i))) r.owners hcl ?_ ?_ (show r.owners.length < ((r.owners.length : Int) - 0).toNat + 1 by omega)
    · intro sf; unfold m54_overflightref37_Valid_B0; simp
    · intro sf i x t h1 h2 h3 ih
      have hrow : r.costs.getD i default ∈ r.costs := getD_mem (by omega)
      have hrl := (hs.2.2.2 _ hrow)
      rw [List.length_cons, all_range']
      unfold m54_overflightref37_Valid_B0
      have c1 : (i : Int) < (r.owners.length : Int) := by omega
      have g0 : r.costs.getD (i : Int).toNat default = r.costs.getD i default := rfl
      have g1 : r.owners.getD (i : Int).toNat default = r.owners.getD i default := rfl
      simp only [decide_eq_true c1, cond_true, jn_eq, g0, g1]
      have inner : ∀ row : List Int, row = r.costs.getD i default → (row.length : Int) = r.slots → loop1 (m54_overflightref37_Valid_B1 r (i : Int) sf) ((r.slots - 0).toNat + 1) 0 = bif (decide (row.getD i default < 0) || row.any badC) then some false else sf (IntKind.wrap .i64 ((i : Int) + 1)) := by
        intro row hr hl
        rw [← badK_any (row := row) (i := i) (by omega)]
        refine up_listI (fun k t => bif (List.range' k t.length).any (badK row i) then some false else sf (IntKind.wrap .i64 ((i : Int) + 1))) row (by omega) ?_ ?_ (by omega)
        · intro sg; unfold m54_overflightref37_Valid_B1; simp [hl]
        · intro sg k y u h1 h2 h3 ih
          have g0 : r.costs.getD (i : Int).toNat default = row := by rw [hr]; rfl
          have g2 : row.getD (k : Int).toNat default = row.getD k default := rfl
          have c1 : (k : Int) < r.slots := by omega
          have e1 : ((k : Int) = (i : Int)) = (k = i) := by apply propext; omega
          rw [List.length_cons, any_range']
          unfold m54_overflightref37_Valid_B1
          simp only [c1, decide_true, cond_true, jn_eq, g0, g2, h3, ih, e1]
          rw [ck_eq (by omega), ck_eq (by omega)]
          have hb : badK row i k = (decide (row.getD k default < -1) || (decide (1048576 < row.getD k default) || (decide (k = i) && decide (row.getD k default < 0)))) := rfl
          rw [hb]
          have a1 : (0 : Int) ≤ i ∧ (i : Int) < r.costs.length := by omega
          have a2 : (0 : Int) ≤ k ∧ (k : Int) < row.length := by omega
          generalize (List.range' (k + 1) u.length).any (badK row i) = rest
          generalize row.getD k default = c
          simp only [ck_eq a1, ck_eq a2]
          by_cases q1 : c < -1
          · simp [q1]
          by_cases q2 : 1048576 < c
          · simp [q1, q2]
          by_cases q3 : k = i
          · by_cases q4 : c < 0
            · simp only [q1, q2, q3, q4]; rfl
            · simp only [q1, q2, q3, q4]; rfl
          · simp [q1, q2, q3]
      have hb : rowBad r i = ((decide (r.owners.getD i default < 0) || decide (7 < r.owners.getD i default)) || (!decide (((r.costs.getD i default).length : Int) = r.slots) || (decide ((r.costs.getD i default).getD i default < 0) || (r.costs.getD i default).any badC))) := rfl
      rw [hb]
      replace inner := inner _ rfl
      rw [h3] at inner
      generalize (List.range' (i + 1) t.length).all (fun i => !rowBad r i) = rest at *
      clear hb hrl hrow g0 g1 hs
      generalize r.costs.getD i default = row at *
      generalize r.owners.getD i default = o at *
      generalize row.getD i default = dg at *
      generalize row.any badC = bb at *
      have a1 : (0 : Int) ≤ i ∧ (i : Int) < r.owners.length := by omega
      have a2 : (0 : Int) ≤ i ∧ (i : Int) < r.costs.length := by omega
      simp only [ck_eq a1, ck_eq a2]
      by_cases k1 : o < 0
      · simp [k1]
      by_cases k2 : 7 < o
      · have : 8 ≤ o := by omega
        simp [k1, k2, this, ck_eq a1]
      have k2' : ¬ 8 ≤ o := by omega
      by_cases k3 : (row.length : Int) = r.slots
      · simp only [k1, k2, k2', k3, ck_eq a1, ck_eq a2, inner k3, ih, ne_eq, not_true_eq_false, decide_false, cond_false]
        generalize decide (dg < 0) = d1
        cases d1 <;> cases bb <;> rfl
      · simp [k1, k2, k2', k3, ck_eq a1, ck_eq a2]
  simp only [jn_eq]
  unfold valB
  cases hsh : shapeB r
  · unfold shapeB at hsh
    by_cases k1 : r.slots < 1
    · simp [k1]
    by_cases k2 : 8 < r.slots
    · simp [k1, k2]
    by_cases k3 : r.slots < (r.owners.length : Int)
    · simp [k1, k2, k3]
    by_cases k4 : (r.costs.length : Int) = (r.owners.length : Int)
    · simp [k1, k2, k3, k4] at hsh
    · simp [k1, k2, k3, k4]
  · have hm := main hsh
    obtain ⟨s1, s2, s3, s4⟩ := shape_props hsh
    have k1 : ¬ r.slots < 1 := by omega
    have k2 : ¬ 8 < r.slots := by omega
    have k3 : ¬ r.slots < (r.owners.length : Int) := by omega
    have k4 : (r.costs.length : Int) = (r.owners.length : Int) := by omega
    simp only [k1, k2, k3, k4, decide_false, cond_false, ne_eq, not_true_eq_false, Bool.true_and]
    exact hm
def fewB (r : XRound) : Bool := !(decide (12 < (r.owners.length : Int)) || decide (12 < (r.costs.length : Int))) && (r.costs.all (fun c => !decide (20 < (c.length : Int))) && (!valB r || decide ((r.owners.length : Int) ≤ 5)))
theorem m29_eq (r : XRound) (hs : smXRound r) : m29_overflightref37_Few r = some (fewB r) := by
  have hcl : r.costs.length < 9223372036854775807 := by have := hs.2.2.1; omega
  unfold m29_overflightref37_Few
  have main : loop1 (m29_overflightref37_Few_B0 r) (((r.costs.length : Int) - 0).toNat + 1) 0 = some (r.costs.all (fun c => !decide (20 < (c.length : Int))) && (!valB r || decide ((r.owners.length : Int) ≤ 5))) := by
    refine up_list0 (fun t => some (t.all (fun c => !decide (20 < (c.length : Int))) && (!valB r || decide ((r.owners.length : Int) ≤ 5)))) r.costs hcl ?_ ?_ (show r.costs.length < ((r.costs.length : Int) - 0).toNat + 1 by omega)
    · intro sf; unfold m29_overflightref37_Few_B0; simp only [m54_eq r hs]; cases valB r <;> simp
    · intro sf i x t h1 h2 h3 ih
      unfold m29_overflightref37_Few_B0
      have g0 : r.costs.getD (i : Int).toNat default = x := getD_of h2
      have c1 : (i : Int) < (r.costs.length : Int) := by omega
      simp only [c1, decide_true, cond_true, g0, h3, ih, List.all_cons]
      rw [ck_eq (by simp)]
      cases decide (20 < (x.length : Int)) <;> simp
  simp only [jn_eq, main]
  unfold fewB
  cases decide (12 < (r.owners.length : Int)) <;> cases decide (12 < (r.costs.length : Int)) <;> simp
/-- what flight f costs at slot s -/
def cst (r : XRound) (f s : Int) : Int := (r.costs.getD f.toNat default).getD s.toNat default
def ownr (r : XRound) (f : Int) : Int := r.owners.getD f.toNat default
/-- slot i of s is as it should be -/
def okS (r : XRound) (s : List Int) (i : Nat) : Bool := !(decide (s.getD i default < 0) || (decide (r.slots ≤ s.getD i default) || (decide (cst r i (s.getD i default) < 0) || (s.take i).any (fun x => decide (s.getD i default = x)))))
def asgB (r : XRound) (s : List Int) : Bool := decide (s.length = r.owners.length) && (List.range s.length).all (okS r s)
theorem m53_eq (r : XRound) (s : List Int) (hv : Val r) (hl : s.length < 9223372036854775807) : m53_coalition_allowed r s = some (asgB r s) := by
  unfold m53_coalition_allowed asgB
  by_cases hc : s.length = r.owners.length
  · have : ¬ (s.length : Int) ≠ r.owners.length := by omega
    simp only [this, decide_eq_true hc, decide_false, cond_false, Bool.true_and]
    rw [all_range]
    refine up_listI (fun i t => some ((List.range' i t.length).all (okS r s))) s hl ?_ ?_ (show s.length < ((s.length : Int) - 0).toNat + 1 by omega)
    · intro sf; unfold m53_coalition_allowed_B0; simp
    · intro sf i x t h1 h2 h3 ih
      rw [List.length_cons, all_range']
      unfold m53_coalition_allowed_B0
      have g0 : s.getD (i : Int).toNat default = s.getD i default := rfl
      have c1 : (i : Int) < (s.length : Int) := by omega
      have c2 : (0 : Int) ≤ i ∧ (i : Int) < s.length := by omega
      have c3 : (0 : Int) ≤ i ∧ (i : Int) ≤ s.length := by omega
      have c4 : (0 : Int) ≤ i ∧ (i : Int) < r.costs.length := by have := hv.s4; omega
      have e1 : (s.drop 0).take ((i : Int).toNat - 0) = s.take i := by simp
      have hm := m48_eq (s.take i) (s.getD i default) (by rw [List.length_take]; omega)
      have e2 : (r.costs.getD (i : Int).toNat default).getD (s.getD i default).toNat default = cst r i (s.getD i default) := rfl
      have hr := hv.row i (by omega)
      have hr' : ((r.costs.getD (i : Int).toNat default).length : Int) = r.slots := hr
      have hb : okS r s i = !(decide (s.getD i default < 0) || (decide (r.slots ≤ s.getD i default) || (decide (cst r i (s.getD i default) < 0) || (s.take i).any (fun x => decide (s.getD i default = x))))) := rfl
      simp only [c1, decide_true, cond_true, jn_eq, ck_eq c2, g0, h3, ih, e1, hm, ck_eq c3, ck_eq c4, e2, hr', hb, Option.bind_some]
      generalize cst r i (s.getD i default) = c
      generalize (s.take i).any (fun x => decide (s.getD i default = x)) = b
      generalize s.getD i default = v
      by_cases k1 : v < 0
      · simp [k1]
      by_cases k2 : r.slots ≤ v
      · simp [k1, k2]
      have c5 : (0 : Int) ≤ v ∧ v < r.slots := by omega
      simp only [ck_eq c5]
      by_cases k3 : c < 0
      · simp [k1, k2, k3]
      · cases b <;> simp [k1, k2, k3]
  · have : (s.length : Int) ≠ r.owners.length := by omega
    simp [this, hc]
theorem m26_eq (r : XRound) (s : List Int) (hs : smXRound r) (hl : s.length < 9223372036854775807) : m26_coalition_Allowed r s = some (bif valB r then (asgB r s, 0) else (false, 370)) := by
  unfold m26_coalition_Allowed
  rw [m25_eq r hs]
  cases hv : valB r
  · rfl
  · simp [m53_eq r s (Val.of hv) hl]
def goodB (r : XRound) (s : List Int) : Bool := valB r && asgB r s
theorem m45_eq (r : XRound) (s : List Int) (hs : smXRound r) (hl : s.length < 9223372036854775807) : m45_coalition_check r s = some (bif goodB r s then 0 else 370) := by
  unfold m45_coalition_check
  rw [m26_eq r s hs hl]
  unfold goodB
  cases hv : valB r
  · rfl
  · cases ha : asgB r s <;> rfl
def ownL (r : XRound) : List Int := (List.range r.owners.length).map fun i : Nat => (i : Int)
theorem m47_eq (r : XRound) (hv : Val r) : m47_coalition_own r = some (ownL r) := by
  unfold m47_coalition_own ownL
  have hn : r.owners.length ≤ 8 := by have := hv.s3; have := hv.s2; omega
  rw [List.range_eq_range']
  refine up_listB (fun i s => s.length = i) (fun i t s => some (s ++ (List.range' i t.length).map fun i : Nat => (i : Int))) r.owners (by omega) ?_ ?_ (by omega) (by rfl)
  · intro sf s hI; unfold m47_coalition_own_B0; simp
  · intro sf i s x t h1 h2 h3 hI ih
    unfold m47_coalition_own_B0
    have c1 : (i : Int) < (r.owners.length : Int) := by omega
    simp only [c1, decide_true, cond_true, h3]
    rw [ck_eq (by simp [hI]; omega), ih _ (by simp [hI])]
    simp [List.range'_succ]
end Go.Fx
/- Chapter 37: costs, worse. -/
set_option linter.unusedSimpArgs false
set_option linter.unusedVariables false
namespace Go.Fx
open Go Go.RowKit
theorem map_range_set {f g : Nat → Int} {k n : Nat} {v : Int} (hk : k < n) (hv : g k = v) (h : ∀ j, j ≠ k → g j = f j) : ((List.range n).map f).set k v = (List.range n).map g := by
  apply List.ext_getElem
  · simp
  · intro i h1 h2
    simp at h1
    by_cases e : k = i
    · subst e; simp [hv]
    · rw [List.getElem_set_ne e]; simp [h i (Ne.symm e)]
theorem getD_map_range {f : Nat → Int} {k n : Nat} (hk : k < n) : ((List.range n).map f).getD k default = f k := by simp [hk]
theorem csum_bound {own : Int → Int} {cost : Int → Int → Int} {o b : Int} {l : List (Int × Int)} (hb : 0 ≤ b) (h : ∀ p ∈ l, -b ≤ cost p.1 p.2 ∧ cost p.1 p.2 ≤ b) : -(b * l.length) ≤ csum own cost o l ∧ csum own cost o l ≤ b * l.length := by
  induction l with
  | nil => simp [csum]
  | cons p t ih =>
    obtain ⟨f, s⟩ := p
    have := ih fun p hp => h p (List.mem_cons_of_mem _ hp)
    have h1 := h (f, s) (List.mem_cons_self ..)
    simp only at h1
    simp only [csum, List.length_cons]
    have e : b * ((t.length + 1 : Nat) : Int) = b * t.length + b := by rw [Int.natCast_add, Int.mul_add]; simp
    rw [e]
    split <;> omega
/-- the costs of all airlines -/
def cvec (r : XRound) (fl s : List Int) : List Int := (List.range 8).map fun o : Nat => csum (ownr r) (cst r) (o : Int) (fl.zip s)
/-- flight f may have slot s -/
def fits (r : XRound) (f s : Int) : Prop := 0 ≤ f ∧ f < r.owners.length ∧ 0 ≤ s ∧ s < r.slots
theorem fits.cst {r : XRound} {f s : Int} (hv : Val r) (h : fits r f s) : -1 ≤ cst r f s ∧ cst r f s ≤ 1048576 := by
  obtain ⟨a, b, c, d⟩ := h
  have hr := hv.row f.toNat (by omega)
  exact hv.cost f.toNat (by omega) _ (getD_mem (by omega))
theorem zip_take_succ {l m : List Int} {i : Nat} (h1 : i < l.length) (h2 : i < m.length) : (l.zip m).take (i + 1) = (l.zip m).take i ++ [(l.getD i default, m.getD i default)] := by
  rw [List.take_succ_eq_append_getElem (by simp; omega)]
  simp [h1, h2]
theorem m46_eq (r : XRound) (fl s : List Int) (hv : Val r) (hl : fl.length ≤ 20) (hls : fl.length ≤ s.length) (hf : ∀ i < fl.length, fits r (fl.getD i default) (s.getD i default)) : m46_coalition_costs r fl s = some (cvec r fl s) := by
  unfold m46_coalition_costs
  rw [ck_eq (by decide)]
  have hz : (fl.zip s).take fl.length = fl.zip s := by rw [List.take_of_length_le (by simp; omega)]
  refine up_listB (fun i c => c = (List.range 8).map fun o : Nat => csum (ownr r) (cst r) (o : Int) ((fl.zip s).take i)) (fun i t c => some (cvec r fl s)) fl (by omega) ?_ ?_ (by omega) (by rfl)
  · intro sf c hI; unfold m46_coalition_costs_B0; rw [hz] at hI; simp [hI, cvec]
  · intro sf i c x t h1 h2 h3 hI ih
    unfold m46_coalition_costs_B0
    obtain ⟨a1, a2, a3, a4⟩ := hf i h1
    have g0 : fl.getD (i : Int).toNat default = fl.getD i default := rfl
    have g1 : s.getD (i : Int).toNat default = s.getD i default := rfl
    have hc := fits.cst hv (hf i h1)
    have hbound : ∀ o, -(1048576 * 20) ≤ csum (ownr r) (cst r) o ((fl.zip s).take i) ∧ csum (ownr r) (cst r) o ((fl.zip s).take i) ≤ 1048576 * 20 := by
      intro o
      have := csum_bound (own := ownr r) (cost := cst r) (o := o) (b := 1048576) (l := (fl.zip s).take i) (by omega) (fun p hp => by
        obtain ⟨j, hj, rfl⟩ := List.getElem_of_mem (List.mem_of_mem_take hp)
        simp at hj
        have := fits.cst hv (hf j (by omega))
        rw [getD_getElem (by omega), getD_getElem (by omega)] at this
        simp only [List.getElem_zip]; omega)
      have hle : ((fl.zip s).take i).length ≤ 20 := by simp; omega
      have : (1048576 : Int) * ((fl.zip s).take i).length ≤ 1048576 * 20 := by omega
      omega
    have e1 : (r.costs.getD (fl.getD i default).toNat default).getD (s.getD i default).toNat default = cst r (fl.getD i default) (s.getD i default) := rfl
    have e2 : r.owners.getD (fl.getD i default).toNat default = ownr r (fl.getD i default) := rfl
    have hro := hv.row (fl.getD i default).toNat (by omega)
    have ho := hv.own (fl.getD i default).toNat (by omega)
    rw [e2] at ho
    have hs4 := hv.s4
    simp only [show (i : Int) < (fl.length : Int) by omega, decide_true, cond_true, g0, g1, e1, e2]
    have hlen : c.length = 8 := by rw [hI]; simp
    have c1 : (0 : Int) ≤ i ∧ (i : Int) < fl.length := by omega
    have c2 : (0 : Int) ≤ fl.getD i default ∧ fl.getD i default < r.owners.length := ⟨a1, a2⟩
    have c3 : (0 : Int) ≤ ownr r (fl.getD i default) ∧ ownr r (fl.getD i default) < c.length := by omega
    have c4 : (0 : Int) ≤ fl.getD i default ∧ fl.getD i default < r.costs.length := by omega
    have c5 : (0 : Int) ≤ i ∧ (i : Int) < s.length := by omega
    have c6 : (0 : Int) ≤ s.getD i default ∧ s.getD i default < ((r.costs.getD (fl.getD i default).toNat default).length : Int) := by omega
    have cs := zip_take_succ h1 (show i < s.length by omega)
    simp only [true_and, ck_True, ck_eq c1, ck_eq c2, ck_eq c3, ck_eq c4, ck_eq c5, ck_eq c6, h3]
    refine ih _ ?_
    generalize fl.getD i default = f at *
    generalize s.getD i default = v at *
    have hk : ((ownr r f).toNat : Int) = ownr r f := by omega
    have hg : c.getD (ownr r f).toNat default = csum (ownr r) (cst r) (ownr r f) ((fl.zip s).take i) := by rw [hI, getD_map_range (by omega), hk]
    rw [hg, wrap_i64 (by have := hbound (ownr r f); omega) (by have := hbound (ownr r f); omega), hI]
    refine map_range_set (by omega) ?_ ?_
    · rw [cs, csum_append, hk]; simp [csum]
    · intro j hj; rw [cs, csum_append]; simp [csum]; omega
theorem asg_props {r : XRound} {s : List Int} (h : asgB r s = true) : s.length = r.owners.length ∧ ∀ i < s.length, 0 ≤ s.getD i default ∧ s.getD i default < r.slots ∧ 0 ≤ cst r i (s.getD i default) ∧ ∀ j < i, s.getD j default ≠ s.getD i default := by
  unfold asgB at h
  simp only [Bool.and_eq_true, decide_eq_true_eq, List.all_eq_true, List.mem_range] at h
  refine ⟨h.1, fun i hi => ?_⟩
  have := h.2 i hi
  unfold okS at this
  simp only [Bool.not_eq_true', Bool.or_eq_false_iff, decide_eq_false_iff_not, List.any_eq_false, decide_eq_true_eq] at this
  obtain ⟨b1, b2, b3, b4⟩ := this
  refine ⟨by omega, by omega, by omega, fun j hj e => b4 (s.getD j default) ?_ e.symm⟩
  have : (s.take i).getD j default ∈ s.take i := getD_mem (by rw [List.length_take]; omega)
  rwa [show (s.take i).getD j default = s.getD j default from by simp [hj]] at this
theorem ownL_len (r : XRound) : (ownL r).length = r.owners.length := by simp [ownL]
theorem ownL_getD {r : XRound} {i : Nat} (h : i < r.owners.length) : (ownL r).getD i default = i := by simp [ownL, h]
theorem fits_asg {r : XRound} {s : List Int} (hv : Val r) (h : asgB r s = true) : ∀ i < (ownL r).length, fits r ((ownL r).getD i default) (s.getD i default) := by
  intro i hi
  rw [ownL_len] at hi
  obtain ⟨e, h2⟩ := asg_props h
  obtain ⟨b1, b2, _, _⟩ := h2 i (by omega)
  rw [ownL_getD hi]
  exact ⟨by omega, by omega, b1, b2⟩
theorem Val.n8 {r : XRound} (hv : Val r) : r.owners.length ≤ 8 := by have := hv.s3; have := hv.s2; omega
theorem cvec_asg {r : XRound} {s : List Int} (hv : Val r) (h : asgB r s = true) : m46_coalition_costs r (ownL r) s = some (cvec r (ownL r) s) :=
  m46_eq r _ s hv (by have := hv.n8; rw [ownL_len]; omega) (by rw [ownL_len, (asg_props h).1]; exact Nat.le_refl _) (fits_asg hv h)
theorem good_props {r : XRound} {s : List Int} (h : goodB r s = true) : Val r ∧ asgB r s = true := by
  unfold goodB at h; simp only [Bool.and_eq_true] at h; exact ⟨Val.of h.1, h.2⟩
theorem m22_eq (r : XRound) (s : List Int) (hs : smXRound r) (hl : s.length < 9223372036854775807) : m22_coalition_Costs r s = some (bif goodB r s then (cvec r (ownL r) s, 0) else ([], 370)) := by
  unfold m22_coalition_Costs
  rw [m45_eq r s hs hl]
  cases hg : goodB r s
  · rfl
  · obtain ⟨hv, ha⟩ := good_props hg
    simp [m47_eq r hv, cvec_asg hv ha]
end Go.Fx
namespace Go.Fx
open Go Go.RowKit Go.Proofs
end Go.Fx
/- Chapter 37: deviations and what blocks. -/
set_option linter.unusedSimpArgs false
set_option linter.unusedVariables false
namespace Go.Fx
open Go Go.RowKit
theorem gd_get {fl : List Int} {ok : Nat → Int → Bool} : ∀ {t b : List Int}, gd fl ok b t ↔ ∀ i < t.length, t.getD i default ∈ fl ∧ ok (b.length + i) (t.getD i default) = true ∧ t.getD i default ∉ b ∧ ∀ j < i, t.getD j default ≠ t.getD i default := by
  intro t
  induction t with
  | nil => intro b; simp [gd]
  | cons s t ih =>
    intro b
    unfold gd
    rw [ih]
    constructor
    · rintro ⟨h1, h2, h3, h4⟩ i hi
      cases i with
      | zero => exact ⟨h1, h2, h3, fun j hj => by omega⟩
      | succ i =>
        obtain ⟨k1, k2, k3, k4⟩ := h4 i (by simpa using hi)
        rw [List.getD_cons_succ]
        refine ⟨k1, ?_, fun h => k3 (List.mem_append_left _ h), fun j hj => ?_⟩
        · rw [← k2]; congr 1; simp; omega
        · cases j with
          | zero => rw [List.getD_cons_zero]; intro e; exact k3 (List.mem_append_right _ (by simp [e]))
          | succ j => rw [List.getD_cons_succ]; exact k4 j (by omega)
    · intro h
      obtain ⟨a1, a2, a3, _⟩ := h 0 (by simp)
      refine ⟨a1, a2, a3, fun i hi => ?_⟩
      obtain ⟨k1, k2, k3, k4⟩ := h (i + 1) (by simpa using hi)
      rw [List.getD_cons_succ] at k1 k2 k3 k4
      refine ⟨k1, ?_, fun hm => ?_, fun j hj => ?_⟩
      · rw [← k2]; congr 1; simp; omega
      · rcases List.mem_append.1 hm with hm | hm
        · exact k3 hm
        · have := k4 0 (by omega); rw [List.getD_cons_zero] at this; exact this (List.mem_singleton.1 hm).symm
      · have := k4 (j + 1) (by omega); rwa [List.getD_cons_succ] at this
end Go.Fx
/- Chapter 37: stable assignments, members, better. -/
set_option linter.unusedSimpArgs false
set_option linter.unusedVariables false
namespace Go.Fx
open Go Go.RowKit
end Go.Fx
/- Chapter 37: what blocks is not stable. -/
set_option linter.unusedSimpArgs false
set_option linter.unusedVariables false
namespace Go.Fx
open Go Go.RowKit
end Go.Fx
/- The chapter's examples. -/
namespace Go.Fx
open Go Go.RowKit
theorem sane38 : m10_overflightlaw38_sane = some true := by kernel_rfl
end Go.Fx
