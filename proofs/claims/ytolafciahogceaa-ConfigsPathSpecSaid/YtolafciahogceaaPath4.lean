/- Part 4 of the proof: path and Stuck of chapter 10 match the specification, for every airspace and two configurations. -/
import Derived.Test.YtolafciahogceaaPath3
set_option linter.unusedVariables false
set_option linter.unusedSimpArgs false
set_option maxRecDepth 100000
set_option maxHeartbeats 0
namespace Go.Fx
open Go Go.RowKit Go.Proofs
def m11_overflightlaw10_sane : Option Bool :=
 (m28_overflightlaw10_example).bind fun example_1 =>
 (m17_configs_Reach example_1 0).bind fun reach_1 =>
 (m22_configs_Path example_1 0 1).bind fun path_1 =>
 (m22_configs_Path example_1 1 1).bind fun path_2 =>
 (m24_configs_Stuck example_1).bind fun stuck_1 =>
 ck ((0 : Int) ≤ (2 : Int) ∧ (2 : Int) ≤ (example_1.configs.length : Int)) <|
 (m24_configs_Stuck (⟨example_1.volumes, example_1.sectors, ((example_1.configs.drop 0).take (2 - 0)), example_1.segments, example_1.routes, example_1.airports, example_1.classes, example_1.rules⟩ : XAirspace)).bind fun stuck_2 =>
 (m17_configs_Reach (⟨example_1.volumes, example_1.sectors, ((example_1.configs.drop 0).take (2 - 0)), example_1.segments, example_1.routes, example_1.airports, example_1.classes, example_1.rules⟩ : XAirspace) 1).bind fun reach_2 =>
 (m13_configs_Sector example_1 2 0).bind fun sector_1 =>
 (m13_configs_Sector (⟨([] : List XVolume), ([] : List XSector), ([] : List XConfig), ([] : List XSegment), ([] : List XRoute), ([] : List XAirport), ([] : List XClass), ([] : List XRule)⟩ : XAirspace) 0 0).bind fun sector_2 =>
 jn (fun (good_1 : Bool) =>
  jn (fun (v_1 : Bool) =>
   some v_1)
  (fun k169 =>
   bif good_1 then
    bif (decide (stuck_2.2.2.2 = 0)) then
     bif stuck_2.2.2.1 then
      bif (decide (stuck_2.1 = 0)) then
       bif (decide (stuck_2.2.1 = 1)) then
        bif (decide (reach_2.2 = 0)) then
         (m21_overflightref10_SameInts reach_2.1 [1]).bind fun sameints_1 =>
         bif sameints_1 then
          bif sector_1.2 then
           bif (decide (sector_1.1 = 3)) then
            bif (!sector_2.2) then
             (m15_configs_Check example_1).bind fun check_1 =>
             bif (decide (check_1 = 0)) then
              (m15_configs_Check (⟨([] : List XVolume), ([] : List XSector), ([] : List XConfig), ([] : List XSegment), ([] : List XRoute), ([] : List XAirport), ([] : List XClass), ([] : List XRule)⟩ : XAirspace)).bind fun check_2 =>
              bif (decide (check_2 = 100)) then
               (m19_configs_Step example_1 0 2).bind fun step_1 =>
               bif step_1 then
                (m19_configs_Step example_1 0 1).bind fun step_2 =>
                bif (!step_2) then
                 (m19_configs_Step example_1 0 0).bind fun step_3 =>
                 k169 (!step_3)
                else
                 k169 false
               else
                k169 false
              else
               k169 false
             else
              k169 false
            else
             k169 false
           else
            k169 false
          else
           k169 false
         else
          k169 false
        else
         k169 false
       else
        k169 false
      else
       k169 false
     else
      k169 false
    else
     k169 false
   else
    k169 false))
 (fun k159 =>
  bif (decide (reach_1.2 = 0)) then
   (m21_overflightref10_SameInts reach_1.1 [0, 1, 2]).bind fun sameints_2 =>
   bif sameints_2 then
    bif (decide (path_1.2.2 = 0)) then
     bif path_1.2.1 then
      (m21_overflightref10_SameInts path_1.1 [0, 2, 1]).bind fun sameints_3 =>
      bif sameints_3 then
       bif (decide (path_2.2.2 = 0)) then
        bif path_2.2.1 then
         (m21_overflightref10_SameInts path_2.1 [1]).bind fun sameints_4 =>
         bif sameints_4 then
          bif (decide (stuck_1.2.2.2 = 0)) then
           bif (!stuck_1.2.2.1) then
            bif (decide (stuck_1.1 = 0)) then
             k159 (decide (stuck_1.2.1 = 0))
            else
             k159 false
           else
            k159 false
          else
           k159 false
         else
          k159 false
        else
         k159 false
       else
        k159 false
      else
       k159 false
     else
      k159 false
    else
     k159 false
   else
    k159 false
  else
   k159 false)

theorem c11_overflightlaw10_sane {w : World} {O : List Nat} (hO : ∀ k ∈ O, k < w.heap.size) {x : Bool} (hm : m11_overflightlaw10_sane = some x) :
  Ok Try.prog 11 [] w O vB x := by
 unfold m11_overflightlaw10_sane at hm
 refine Fn_of_Wp (n := 185) (xs := [.tmp 0]) Try.func11 rfl Try.ntmps11 Try.results11 rfl ?_
 have hs := St.start hO
 refine Wp_seq ?_
 refine Wp_region ?_
 refine Rg_op rfl (op_assign (v := (Value.bool false)) rfl ?_)
 refine Rg_nil ?_
 refine Wp_seq ?_
 refine Wp_region ?_
 replace hm := bd hm; obtain ⟨example_1, hv1, hm⟩ := hm
 refine Rg_op rfl (op_call Try.call28 (c28_overflightlaw10_example  hs.ltw  hv1) rfl ?_)
 rintro v2 w3 ⟨hx4, h5⟩
 have hs6 := hs.call hx4
 have p7 := Step.ext (O := ks [] O) hx4
 clear hx4
 clear p7
 obtain ⟨_, rfl, ⟨_, _, rfl, ⟨a_y8_volumes, c_y8_volumes, rfl, f_y8_volumes⟩, ⟨_, _, rfl, ⟨a_y8_sectors, c_y8_sectors, rfl, f_y8_sectors⟩, ⟨_, _, rfl, ⟨a_y8_configs, c_y8_configs, rfl, f_y8_configs⟩, ⟨_, _, rfl, ⟨a_y8_segments, c_y8_segments, rfl, f_y8_segments⟩, ⟨_, _, rfl, ⟨a_y8_routes, c_y8_routes, rfl, f_y8_routes⟩, ⟨_, _, rfl, ⟨a_y8_airports, c_y8_airports, rfl, f_y8_airports⟩, ⟨_, _, rfl, ⟨a_y8_classes, c_y8_classes, rfl, f_y8_classes⟩, ⟨a_y8_rules, c_y8_rules, rfl, f_y8_rules⟩⟩⟩⟩⟩⟩⟩⟩⟩ := h5
 refine Rg_op rfl (op_alloc ty31 hs6 ?_)
 intro b9 w10 _ p11 hs12
 replace f_y8_volumes := f_y8_volumes.step p11; replace f_y8_sectors := f_y8_sectors.step p11; replace f_y8_configs := f_y8_configs.step p11; replace f_y8_segments := f_y8_segments.step p11; replace f_y8_routes := f_y8_routes.step p11; replace f_y8_airports := f_y8_airports.step p11; replace f_y8_classes := f_y8_classes.step p11; replace f_y8_rules := f_y8_rules.step p11; clear p11 hs6
 refine Rg_op_ (op_store (cs := [(Value.slice none 0 0), (Value.slice none 0 0), (Value.slice none 0 0), (Value.slice none 0 0), (Value.slice none 0 0), (Value.slice none 0 0), (Value.slice none 0 0), (Value.slice none 0 0)]) (vs := [(Value.slice a_y8_volumes example_1.volumes.length c_y8_volumes), (Value.slice a_y8_sectors example_1.sectors.length c_y8_sectors), (Value.slice a_y8_configs example_1.configs.length c_y8_configs), (Value.slice a_y8_segments example_1.segments.length c_y8_segments), (Value.slice a_y8_routes example_1.routes.length c_y8_routes), (Value.slice a_y8_airports example_1.airports.length c_y8_airports), (Value.slice a_y8_classes example_1.classes.length c_y8_classes), (Value.slice a_y8_rules example_1.rules.length c_y8_rules)]) (cs' := [(Value.slice a_y8_volumes example_1.volumes.length c_y8_volumes), (Value.slice a_y8_sectors example_1.sectors.length c_y8_sectors), (Value.slice a_y8_configs example_1.configs.length c_y8_configs), (Value.slice a_y8_segments example_1.segments.length c_y8_segments), (Value.slice a_y8_routes example_1.routes.length c_y8_routes), (Value.slice a_y8_airports example_1.airports.length c_y8_airports), (Value.slice a_y8_classes example_1.classes.length c_y8_classes), (Value.slice a_y8_rules example_1.rules.length c_y8_rules)]) (bs' := [(some b9, Obj.cells [(Value.slice a_y8_volumes example_1.volumes.length c_y8_volumes), (Value.slice a_y8_sectors example_1.sectors.length c_y8_sectors), (Value.slice a_y8_configs example_1.configs.length c_y8_configs), (Value.slice a_y8_segments example_1.segments.length c_y8_segments), (Value.slice a_y8_routes example_1.routes.length c_y8_routes), (Value.slice a_y8_airports example_1.airports.length c_y8_airports), (Value.slice a_y8_classes example_1.classes.length c_y8_classes), (Value.slice a_y8_rules example_1.rules.length c_y8_rules)].toArray 31)]) (i := 0) ty31 hs12 rfl rfl rfl rfl rfl (le_lit rfl) rfl rfl rfl ?_)
 intro w14 p15 hs16
 replace f_y8_volumes := f_y8_volumes.step p15; replace f_y8_sectors := f_y8_sectors.step p15; replace f_y8_configs := f_y8_configs.step p15; replace f_y8_segments := f_y8_segments.step p15; replace f_y8_routes := f_y8_routes.step p15; replace f_y8_airports := f_y8_airports.step p15; replace f_y8_classes := f_y8_classes.step p15; replace f_y8_rules := f_y8_rules.step p15; clear p15 hs12
 refine Rg_nil ?_
 refine Wp_seq ?_
 refine Wp_region ?_
 refine Rg_op rfl (op_loadA (cs := [(Value.slice a_y8_volumes example_1.volumes.length c_y8_volumes), (Value.slice a_y8_sectors example_1.sectors.length c_y8_sectors), (Value.slice a_y8_configs example_1.configs.length c_y8_configs), (Value.slice a_y8_segments example_1.segments.length c_y8_segments), (Value.slice a_y8_routes example_1.routes.length c_y8_routes), (Value.slice a_y8_airports example_1.airports.length c_y8_airports), (Value.slice a_y8_classes example_1.classes.length c_y8_classes), (Value.slice a_y8_rules example_1.rules.length c_y8_rules)]) (vs := [(Value.slice a_y8_volumes example_1.volumes.length c_y8_volumes), (Value.slice a_y8_sectors example_1.sectors.length c_y8_sectors), (Value.slice a_y8_configs example_1.configs.length c_y8_configs), (Value.slice a_y8_segments example_1.segments.length c_y8_segments), (Value.slice a_y8_routes example_1.routes.length c_y8_routes), (Value.slice a_y8_airports example_1.airports.length c_y8_airports), (Value.slice a_y8_classes example_1.classes.length c_y8_classes), (Value.slice a_y8_rules example_1.rules.length c_y8_rules)]) (i := 0) ty31 hs16 rfl rfl rfl rfl ?_)
 replace hm := bd hm; obtain ⟨reach_1, hv17, hm⟩ := hm
 refine Rg_op rfl (op_call Try.call17 (c17_configs_Reach (a := example_1) (from_ := 0) hs16.ltw f_y8_volumes f_y8_sectors f_y8_configs f_y8_segments f_y8_routes f_y8_airports f_y8_classes f_y8_rules (show InK .i64 0 from by decide) hv17) rfl ?_)
 rintro v18 w19 ⟨hx20, h21⟩
 have hs22 := hs16.call hx20
 have p23 := Step.ext (O := ks [(some b9, Obj.cells [(Value.slice a_y8_volumes example_1.volumes.length c_y8_volumes), (Value.slice a_y8_sectors example_1.sectors.length c_y8_sectors), (Value.slice a_y8_configs example_1.configs.length c_y8_configs), (Value.slice a_y8_segments example_1.segments.length c_y8_segments), (Value.slice a_y8_routes example_1.routes.length c_y8_routes), (Value.slice a_y8_airports example_1.airports.length c_y8_airports), (Value.slice a_y8_classes example_1.classes.length c_y8_classes), (Value.slice a_y8_rules example_1.rules.length c_y8_rules)].toArray 31)] O) hx20
 clear hx20
 replace f_y8_volumes := f_y8_volumes.step p23; replace f_y8_sectors := f_y8_sectors.step p23; replace f_y8_configs := f_y8_configs.step p23; replace f_y8_segments := f_y8_segments.step p23; replace f_y8_routes := f_y8_routes.step p23; replace f_y8_airports := f_y8_airports.step p23; replace f_y8_classes := f_y8_classes.step p23; replace f_y8_rules := f_y8_rules.step p23; clear p23 hs16
 obtain ⟨v24, v25, rfl, h26, h27⟩ := h21
 obtain ⟨a_y28, c_y28, rfl, f_y28⟩ := un_sl h26
 obtain ⟨rfl, r_y29⟩ := h27
 refine Rg_op rfl (op_move (v := (Value.tuple [(Value.slice a_y28 reach_1.1.length c_y28), (Value.int .i64 reach_1.2)].toArray)) rfl ?_)
 refine Rg_op rfl (op_extract (v := (Value.slice a_y28 reach_1.1.length c_y28)) rfl rfl ?_)
 refine Rg_op rfl (op_extract (v := (Value.int .i64 reach_1.2)) rfl rfl ?_)
 refine Rg_op rfl (op_assign (v := (Value.slice a_y28 reach_1.1.length c_y28)) rfl ?_)
 refine Rg_op rfl (op_assign (v := (Value.int .i64 reach_1.2)) rfl ?_)
 refine Rg_nil ?_
 refine Wp_seq ?_
 refine Wp_region ?_
 refine Rg_op rfl (op_loadA (cs := [(Value.slice a_y8_volumes example_1.volumes.length c_y8_volumes), (Value.slice a_y8_sectors example_1.sectors.length c_y8_sectors), (Value.slice a_y8_configs example_1.configs.length c_y8_configs), (Value.slice a_y8_segments example_1.segments.length c_y8_segments), (Value.slice a_y8_routes example_1.routes.length c_y8_routes), (Value.slice a_y8_airports example_1.airports.length c_y8_airports), (Value.slice a_y8_classes example_1.classes.length c_y8_classes), (Value.slice a_y8_rules example_1.rules.length c_y8_rules)]) (vs := [(Value.slice a_y8_volumes example_1.volumes.length c_y8_volumes), (Value.slice a_y8_sectors example_1.sectors.length c_y8_sectors), (Value.slice a_y8_configs example_1.configs.length c_y8_configs), (Value.slice a_y8_segments example_1.segments.length c_y8_segments), (Value.slice a_y8_routes example_1.routes.length c_y8_routes), (Value.slice a_y8_airports example_1.airports.length c_y8_airports), (Value.slice a_y8_classes example_1.classes.length c_y8_classes), (Value.slice a_y8_rules example_1.rules.length c_y8_rules)]) (i := 0) ty31 hs22 rfl rfl rfl rfl ?_)
 replace hm := bd hm; obtain ⟨path_1, hv30, hm⟩ := hm
 refine Rg_op rfl (op_call Try.call22 (c22_configs_Path (a := example_1) (from_ := 0) (to := 1) hs22.ltw f_y8_volumes f_y8_sectors f_y8_configs f_y8_segments f_y8_routes f_y8_airports f_y8_classes f_y8_rules (show InK .i64 0 from by decide) (show InK .i64 1 from by decide) hv30) rfl ?_)
 rintro v31 w32 ⟨hx33, h34⟩
 have hs35 := hs22.call hx33
 have p36 := Step.ext (O := ks [(some b9, Obj.cells [(Value.slice a_y8_volumes example_1.volumes.length c_y8_volumes), (Value.slice a_y8_sectors example_1.sectors.length c_y8_sectors), (Value.slice a_y8_configs example_1.configs.length c_y8_configs), (Value.slice a_y8_segments example_1.segments.length c_y8_segments), (Value.slice a_y8_routes example_1.routes.length c_y8_routes), (Value.slice a_y8_airports example_1.airports.length c_y8_airports), (Value.slice a_y8_classes example_1.classes.length c_y8_classes), (Value.slice a_y8_rules example_1.rules.length c_y8_rules)].toArray 31)] O) hx33
 clear hx33
 replace f_y8_volumes := f_y8_volumes.step p36; replace f_y8_sectors := f_y8_sectors.step p36; replace f_y8_configs := f_y8_configs.step p36; replace f_y8_segments := f_y8_segments.step p36; replace f_y8_routes := f_y8_routes.step p36; replace f_y8_airports := f_y8_airports.step p36; replace f_y8_classes := f_y8_classes.step p36; replace f_y8_rules := f_y8_rules.step p36; replace f_y28 := f_y28.step p36; clear p36 hs22
 obtain ⟨v37, v38, v39, rfl, h40, h41, h42⟩ := h34
 obtain ⟨a_y43, c_y43, rfl, f_y43⟩ := un_sl h40
 obtain rfl := h41
 obtain ⟨rfl, r_y45⟩ := h42
 refine Rg_op rfl (op_move (v := (Value.tuple [(Value.slice a_y43 path_1.1.length c_y43), (Value.bool path_1.2.1), (Value.int .i64 path_1.2.2)].toArray)) rfl ?_)
 refine Rg_op rfl (op_extract (v := (Value.slice a_y43 path_1.1.length c_y43)) rfl rfl ?_)
 refine Rg_op rfl (op_extract (v := (Value.bool path_1.2.1)) rfl rfl ?_)
 refine Rg_op rfl (op_extract (v := (Value.int .i64 path_1.2.2)) rfl rfl ?_)
 refine Rg_op rfl (op_assign (v := (Value.slice a_y43 path_1.1.length c_y43)) rfl ?_)
 refine Rg_op rfl (op_assign (v := (Value.bool path_1.2.1)) rfl ?_)
 refine Rg_op rfl (op_assign (v := (Value.int .i64 path_1.2.2)) rfl ?_)
 refine Rg_nil ?_
 refine Wp_seq ?_
 refine Wp_region ?_
 refine Rg_op rfl (op_loadA (cs := [(Value.slice a_y8_volumes example_1.volumes.length c_y8_volumes), (Value.slice a_y8_sectors example_1.sectors.length c_y8_sectors), (Value.slice a_y8_configs example_1.configs.length c_y8_configs), (Value.slice a_y8_segments example_1.segments.length c_y8_segments), (Value.slice a_y8_routes example_1.routes.length c_y8_routes), (Value.slice a_y8_airports example_1.airports.length c_y8_airports), (Value.slice a_y8_classes example_1.classes.length c_y8_classes), (Value.slice a_y8_rules example_1.rules.length c_y8_rules)]) (vs := [(Value.slice a_y8_volumes example_1.volumes.length c_y8_volumes), (Value.slice a_y8_sectors example_1.sectors.length c_y8_sectors), (Value.slice a_y8_configs example_1.configs.length c_y8_configs), (Value.slice a_y8_segments example_1.segments.length c_y8_segments), (Value.slice a_y8_routes example_1.routes.length c_y8_routes), (Value.slice a_y8_airports example_1.airports.length c_y8_airports), (Value.slice a_y8_classes example_1.classes.length c_y8_classes), (Value.slice a_y8_rules example_1.rules.length c_y8_rules)]) (i := 0) ty31 hs35 rfl rfl rfl rfl ?_)
 replace hm := bd hm; obtain ⟨path_2, hv46, hm⟩ := hm
 refine Rg_op rfl (op_call Try.call22 (c22_configs_Path (a := example_1) (from_ := 1) (to := 1) hs35.ltw f_y8_volumes f_y8_sectors f_y8_configs f_y8_segments f_y8_routes f_y8_airports f_y8_classes f_y8_rules (show InK .i64 1 from by decide) (show InK .i64 1 from by decide) hv46) rfl ?_)
 rintro v47 w48 ⟨hx49, h50⟩
 have hs51 := hs35.call hx49
 have p52 := Step.ext (O := ks [(some b9, Obj.cells [(Value.slice a_y8_volumes example_1.volumes.length c_y8_volumes), (Value.slice a_y8_sectors example_1.sectors.length c_y8_sectors), (Value.slice a_y8_configs example_1.configs.length c_y8_configs), (Value.slice a_y8_segments example_1.segments.length c_y8_segments), (Value.slice a_y8_routes example_1.routes.length c_y8_routes), (Value.slice a_y8_airports example_1.airports.length c_y8_airports), (Value.slice a_y8_classes example_1.classes.length c_y8_classes), (Value.slice a_y8_rules example_1.rules.length c_y8_rules)].toArray 31)] O) hx49
 clear hx49
 replace f_y8_volumes := f_y8_volumes.step p52; replace f_y8_sectors := f_y8_sectors.step p52; replace f_y8_configs := f_y8_configs.step p52; replace f_y8_segments := f_y8_segments.step p52; replace f_y8_routes := f_y8_routes.step p52; replace f_y8_airports := f_y8_airports.step p52; replace f_y8_classes := f_y8_classes.step p52; replace f_y8_rules := f_y8_rules.step p52; replace f_y28 := f_y28.step p52; replace f_y43 := f_y43.step p52; clear p52 hs35
 obtain ⟨v53, v54, v55, rfl, h56, h57, h58⟩ := h50
 obtain ⟨a_y59, c_y59, rfl, f_y59⟩ := un_sl h56
 obtain rfl := h57
 obtain ⟨rfl, r_y61⟩ := h58
 refine Rg_op rfl (op_move (v := (Value.tuple [(Value.slice a_y59 path_2.1.length c_y59), (Value.bool path_2.2.1), (Value.int .i64 path_2.2.2)].toArray)) rfl ?_)
 refine Rg_op rfl (op_extract (v := (Value.slice a_y59 path_2.1.length c_y59)) rfl rfl ?_)
 refine Rg_op rfl (op_extract (v := (Value.bool path_2.2.1)) rfl rfl ?_)
 refine Rg_op rfl (op_extract (v := (Value.int .i64 path_2.2.2)) rfl rfl ?_)
 refine Rg_op rfl (op_assign (v := (Value.slice a_y59 path_2.1.length c_y59)) rfl ?_)
 refine Rg_op rfl (op_assign (v := (Value.bool path_2.2.1)) rfl ?_)
 refine Rg_op rfl (op_assign (v := (Value.int .i64 path_2.2.2)) rfl ?_)
 refine Rg_nil ?_
 refine Wp_seq ?_
 refine Wp_reset [] [(1, (Value.pointer (some ⟨b9, 0, none⟩))), (2, (Value.slice a_y28 reach_1.1.length c_y28)), (3, (Value.int .i64 reach_1.2)), (4, (Value.slice a_y43 path_1.1.length c_y43)), (5, (Value.bool path_1.2.1)), (6, (Value.int .i64 path_1.2.2)), (7, (Value.slice a_y59 path_2.1.length c_y59)), (8, (Value.bool path_2.2.1)), (9, (Value.int .i64 path_2.2.2))] rfl ⟨rfl, rfl, rfl, rfl, rfl, rfl, rfl, rfl, rfl, trivial⟩ fun ξ62 => ?_
 refine Wp_region ?_
 refine Rg_op rfl (op_loadA (cs := [(Value.slice a_y8_volumes example_1.volumes.length c_y8_volumes), (Value.slice a_y8_sectors example_1.sectors.length c_y8_sectors), (Value.slice a_y8_configs example_1.configs.length c_y8_configs), (Value.slice a_y8_segments example_1.segments.length c_y8_segments), (Value.slice a_y8_routes example_1.routes.length c_y8_routes), (Value.slice a_y8_airports example_1.airports.length c_y8_airports), (Value.slice a_y8_classes example_1.classes.length c_y8_classes), (Value.slice a_y8_rules example_1.rules.length c_y8_rules)]) (vs := [(Value.slice a_y8_volumes example_1.volumes.length c_y8_volumes), (Value.slice a_y8_sectors example_1.sectors.length c_y8_sectors), (Value.slice a_y8_configs example_1.configs.length c_y8_configs), (Value.slice a_y8_segments example_1.segments.length c_y8_segments), (Value.slice a_y8_routes example_1.routes.length c_y8_routes), (Value.slice a_y8_airports example_1.airports.length c_y8_airports), (Value.slice a_y8_classes example_1.classes.length c_y8_classes), (Value.slice a_y8_rules example_1.rules.length c_y8_rules)]) (i := 0) ty31 hs51 rfl rfl rfl rfl ?_)
 replace hm := bd hm; obtain ⟨stuck_1, hv63, hm⟩ := hm
 refine Rg_op rfl (op_call Try.call24 (c24_configs_Stuck (a := example_1) hs51.ltw f_y8_volumes f_y8_sectors f_y8_configs f_y8_segments f_y8_routes f_y8_airports f_y8_classes f_y8_rules hv63) rfl ?_)
 rintro v64 w65 ⟨hx66, h67⟩
 have hs68 := hs51.call hx66
 have p69 := Step.ext (O := ks [(some b9, Obj.cells [(Value.slice a_y8_volumes example_1.volumes.length c_y8_volumes), (Value.slice a_y8_sectors example_1.sectors.length c_y8_sectors), (Value.slice a_y8_configs example_1.configs.length c_y8_configs), (Value.slice a_y8_segments example_1.segments.length c_y8_segments), (Value.slice a_y8_routes example_1.routes.length c_y8_routes), (Value.slice a_y8_airports example_1.airports.length c_y8_airports), (Value.slice a_y8_classes example_1.classes.length c_y8_classes), (Value.slice a_y8_rules example_1.rules.length c_y8_rules)].toArray 31)] O) hx66
 clear hx66
 replace f_y8_volumes := f_y8_volumes.step p69; replace f_y8_sectors := f_y8_sectors.step p69; replace f_y8_configs := f_y8_configs.step p69; replace f_y8_segments := f_y8_segments.step p69; replace f_y8_routes := f_y8_routes.step p69; replace f_y8_airports := f_y8_airports.step p69; replace f_y8_classes := f_y8_classes.step p69; replace f_y8_rules := f_y8_rules.step p69; replace f_y28 := f_y28.step p69; replace f_y43 := f_y43.step p69; replace f_y59 := f_y59.step p69; clear p69 hs51
 obtain ⟨v70, v71, v72, v73, rfl, h74, h75, h76, h77⟩ := h67
 obtain ⟨rfl, r_y78⟩ := h74
 obtain ⟨rfl, r_y79⟩ := h75
 obtain rfl := h76
 obtain ⟨rfl, r_y81⟩ := h77
 refine Rg_op rfl (op_move (v := (Value.tuple [(Value.int .i64 stuck_1.1), (Value.int .i64 stuck_1.2.1), (Value.bool stuck_1.2.2.1), (Value.int .i64 stuck_1.2.2.2)].toArray)) rfl ?_)
 refine Rg_op rfl (op_extract (v := (Value.int .i64 stuck_1.1)) rfl rfl ?_)
 refine Rg_op rfl (op_extract (v := (Value.int .i64 stuck_1.2.1)) rfl rfl ?_)
 refine Rg_op rfl (op_extract (v := (Value.bool stuck_1.2.2.1)) rfl rfl ?_)
 refine Rg_op rfl (op_extract (v := (Value.int .i64 stuck_1.2.2.2)) rfl rfl ?_)
 refine Rg_op rfl (op_assign (v := (Value.int .i64 stuck_1.1)) rfl ?_)
 refine Rg_op rfl (op_assign (v := (Value.int .i64 stuck_1.2.1)) rfl ?_)
 refine Rg_op rfl (op_assign (v := (Value.bool stuck_1.2.2.1)) rfl ?_)
 refine Rg_op rfl (op_assign (v := (Value.int .i64 stuck_1.2.2.2)) rfl ?_)
 refine Rg_nil ?_
 refine Wp_seq ?_
 refine Wp_region ?_
 refine Rg_op rfl (op_loadA (cs := [(Value.slice a_y8_volumes example_1.volumes.length c_y8_volumes), (Value.slice a_y8_sectors example_1.sectors.length c_y8_sectors), (Value.slice a_y8_configs example_1.configs.length c_y8_configs), (Value.slice a_y8_segments example_1.segments.length c_y8_segments), (Value.slice a_y8_routes example_1.routes.length c_y8_routes), (Value.slice a_y8_airports example_1.airports.length c_y8_airports), (Value.slice a_y8_classes example_1.classes.length c_y8_classes), (Value.slice a_y8_rules example_1.rules.length c_y8_rules)]) (vs := [(Value.slice a_y8_volumes example_1.volumes.length c_y8_volumes), (Value.slice a_y8_sectors example_1.sectors.length c_y8_sectors), (Value.slice a_y8_configs example_1.configs.length c_y8_configs), (Value.slice a_y8_segments example_1.segments.length c_y8_segments), (Value.slice a_y8_routes example_1.routes.length c_y8_routes), (Value.slice a_y8_airports example_1.airports.length c_y8_airports), (Value.slice a_y8_classes example_1.classes.length c_y8_classes), (Value.slice a_y8_rules example_1.rules.length c_y8_rules)]) (i := 0) ty31 hs68 rfl rfl rfl rfl ?_)
 refine Rg_op rfl (op_alloc ty31 hs68 ?_)
 intro b82 w83 _ p84 hs85
 replace f_y8_volumes := f_y8_volumes.step p84; replace f_y8_sectors := f_y8_sectors.step p84; replace f_y8_configs := f_y8_configs.step p84; replace f_y8_segments := f_y8_segments.step p84; replace f_y8_routes := f_y8_routes.step p84; replace f_y8_airports := f_y8_airports.step p84; replace f_y8_classes := f_y8_classes.step p84; replace f_y8_rules := f_y8_rules.step p84; replace f_y28 := f_y28.step p84; replace f_y43 := f_y43.step p84; replace f_y59 := f_y59.step p84; clear p84 hs68
 refine Rg_op_ (op_store (cs := [(Value.slice none 0 0), (Value.slice none 0 0), (Value.slice none 0 0), (Value.slice none 0 0), (Value.slice none 0 0), (Value.slice none 0 0), (Value.slice none 0 0), (Value.slice none 0 0)]) (vs := [(Value.slice a_y8_volumes example_1.volumes.length c_y8_volumes), (Value.slice a_y8_sectors example_1.sectors.length c_y8_sectors), (Value.slice a_y8_configs example_1.configs.length c_y8_configs), (Value.slice a_y8_segments example_1.segments.length c_y8_segments), (Value.slice a_y8_routes example_1.routes.length c_y8_routes), (Value.slice a_y8_airports example_1.airports.length c_y8_airports), (Value.slice a_y8_classes example_1.classes.length c_y8_classes), (Value.slice a_y8_rules example_1.rules.length c_y8_rules)]) (cs' := [(Value.slice a_y8_volumes example_1.volumes.length c_y8_volumes), (Value.slice a_y8_sectors example_1.sectors.length c_y8_sectors), (Value.slice a_y8_configs example_1.configs.length c_y8_configs), (Value.slice a_y8_segments example_1.segments.length c_y8_segments), (Value.slice a_y8_routes example_1.routes.length c_y8_routes), (Value.slice a_y8_airports example_1.airports.length c_y8_airports), (Value.slice a_y8_classes example_1.classes.length c_y8_classes), (Value.slice a_y8_rules example_1.rules.length c_y8_rules)]) (bs' := [(some b82, Obj.cells [(Value.slice a_y8_volumes example_1.volumes.length c_y8_volumes), (Value.slice a_y8_sectors example_1.sectors.length c_y8_sectors), (Value.slice a_y8_configs example_1.configs.length c_y8_configs), (Value.slice a_y8_segments example_1.segments.length c_y8_segments), (Value.slice a_y8_routes example_1.routes.length c_y8_routes), (Value.slice a_y8_airports example_1.airports.length c_y8_airports), (Value.slice a_y8_classes example_1.classes.length c_y8_classes), (Value.slice a_y8_rules example_1.rules.length c_y8_rules)].toArray 31), (some b9, Obj.cells [(Value.slice a_y8_volumes example_1.volumes.length c_y8_volumes), (Value.slice a_y8_sectors example_1.sectors.length c_y8_sectors), (Value.slice a_y8_configs example_1.configs.length c_y8_configs), (Value.slice a_y8_segments example_1.segments.length c_y8_segments), (Value.slice a_y8_routes example_1.routes.length c_y8_routes), (Value.slice a_y8_airports example_1.airports.length c_y8_airports), (Value.slice a_y8_classes example_1.classes.length c_y8_classes), (Value.slice a_y8_rules example_1.rules.length c_y8_rules)].toArray 31)]) (i := 0) ty31 hs85 rfl rfl rfl rfl rfl (le_lit rfl) rfl rfl rfl ?_)
 intro w87 p88 hs89
 replace f_y8_volumes := f_y8_volumes.step p88; replace f_y8_sectors := f_y8_sectors.step p88; replace f_y8_configs := f_y8_configs.step p88; replace f_y8_segments := f_y8_segments.step p88; replace f_y8_routes := f_y8_routes.step p88; replace f_y8_airports := f_y8_airports.step p88; replace f_y8_classes := f_y8_classes.step p88; replace f_y8_rules := f_y8_rules.step p88; replace f_y28 := f_y28.step p88; replace f_y43 := f_y43.step p88; replace f_y59 := f_y59.step p88; clear p88 hs85
 refine Rg_nil ?_
 refine Wp_seq ?_
 refine Wp_region ?_
 refine Rg_op rfl (op_fieldAddr ty31 rfl ty24 (by decide) rfl (rfl : _ = (⟨_, 2, none⟩ : Addr)) ?_)
 refine Rg_op rfl (op_load (cs := [(Value.slice a_y8_volumes example_1.volumes.length c_y8_volumes), (Value.slice a_y8_sectors example_1.sectors.length c_y8_sectors), (Value.slice a_y8_configs example_1.configs.length c_y8_configs), (Value.slice a_y8_segments example_1.segments.length c_y8_segments), (Value.slice a_y8_routes example_1.routes.length c_y8_routes), (Value.slice a_y8_airports example_1.airports.length c_y8_airports), (Value.slice a_y8_classes example_1.classes.length c_y8_classes), (Value.slice a_y8_rules example_1.rules.length c_y8_rules)]) (i := 1) ty24 hs89 rfl rfl rfl ?_)
 replace hm := ck_some hm; obtain ⟨hc90, hm⟩ := hm
 refine Rg_op rfl (op_slice (q := rXConfig) (l := 0) (h := 2) (m := c_y8_configs) ty24 ty52 rfl f_y8_configs rfl rfl (bndI rfl (by omega)) rfl (by decide) (by omega) (by omega) (by have h_ : example_1.configs.length ≤ c_y8_configs := f_y8_configs.le; omega) (by have h_ : example_1.configs.length ≤ c_y8_configs := f_y8_configs.le; omega) ?_)
 intro a91 f92
 refine Rg_op rfl (op_fieldAddr ty31 rfl ty24 (by decide) rfl (rfl : _ = (⟨_, 2, none⟩ : Addr)) ?_)
 refine Rg_op_ (op_store (cs := [(Value.slice a_y8_volumes example_1.volumes.length c_y8_volumes), (Value.slice a_y8_sectors example_1.sectors.length c_y8_sectors), (Value.slice a_y8_configs example_1.configs.length c_y8_configs), (Value.slice a_y8_segments example_1.segments.length c_y8_segments), (Value.slice a_y8_routes example_1.routes.length c_y8_routes), (Value.slice a_y8_airports example_1.airports.length c_y8_airports), (Value.slice a_y8_classes example_1.classes.length c_y8_classes), (Value.slice a_y8_rules example_1.rules.length c_y8_rules)]) (vs := [(Value.slice a91 ((example_1.configs.drop 0).take (2 - 0)).length (c_y8_configs - 0))]) (cs' := [(Value.slice a_y8_volumes example_1.volumes.length c_y8_volumes), (Value.slice a_y8_sectors example_1.sectors.length c_y8_sectors), (Value.slice a91 ((example_1.configs.drop 0).take (2 - 0)).length (c_y8_configs - 0)), (Value.slice a_y8_segments example_1.segments.length c_y8_segments), (Value.slice a_y8_routes example_1.routes.length c_y8_routes), (Value.slice a_y8_airports example_1.airports.length c_y8_airports), (Value.slice a_y8_classes example_1.classes.length c_y8_classes), (Value.slice a_y8_rules example_1.rules.length c_y8_rules)]) (bs' := [(some b82, Obj.cells [(Value.slice a_y8_volumes example_1.volumes.length c_y8_volumes), (Value.slice a_y8_sectors example_1.sectors.length c_y8_sectors), (Value.slice a91 ((example_1.configs.drop 0).take (2 - 0)).length (c_y8_configs - 0)), (Value.slice a_y8_segments example_1.segments.length c_y8_segments), (Value.slice a_y8_routes example_1.routes.length c_y8_routes), (Value.slice a_y8_airports example_1.airports.length c_y8_airports), (Value.slice a_y8_classes example_1.classes.length c_y8_classes), (Value.slice a_y8_rules example_1.rules.length c_y8_rules)].toArray 31), (some b9, Obj.cells [(Value.slice a_y8_volumes example_1.volumes.length c_y8_volumes), (Value.slice a_y8_sectors example_1.sectors.length c_y8_sectors), (Value.slice a_y8_configs example_1.configs.length c_y8_configs), (Value.slice a_y8_segments example_1.segments.length c_y8_segments), (Value.slice a_y8_routes example_1.routes.length c_y8_routes), (Value.slice a_y8_airports example_1.airports.length c_y8_airports), (Value.slice a_y8_classes example_1.classes.length c_y8_classes), (Value.slice a_y8_rules example_1.rules.length c_y8_rules)].toArray 31)]) (i := 0) ty24 hs89 rfl rfl rfl rfl rfl (le_lit rfl) rfl rfl rfl ?_)
 intro w93 p94 hs95
 replace f_y8_volumes := f_y8_volumes.step p94; replace f_y8_sectors := f_y8_sectors.step p94; replace f_y8_configs := f_y8_configs.step p94; replace f_y8_segments := f_y8_segments.step p94; replace f_y8_routes := f_y8_routes.step p94; replace f_y8_airports := f_y8_airports.step p94; replace f_y8_classes := f_y8_classes.step p94; replace f_y8_rules := f_y8_rules.step p94; replace f_y28 := f_y28.step p94; replace f_y43 := f_y43.step p94; replace f_y59 := f_y59.step p94; replace f92 := f92.step p94; clear p94 hs89
 refine Rg_nil ?_
 refine Wp_seq ?_
 refine Wp_region ?_
 refine Rg_op rfl (op_loadA (cs := [(Value.slice a_y8_volumes example_1.volumes.length c_y8_volumes), (Value.slice a_y8_sectors example_1.sectors.length c_y8_sectors), (Value.slice a91 ((example_1.configs.drop 0).take (2 - 0)).length (c_y8_configs - 0)), (Value.slice a_y8_segments example_1.segments.length c_y8_segments), (Value.slice a_y8_routes example_1.routes.length c_y8_routes), (Value.slice a_y8_airports example_1.airports.length c_y8_airports), (Value.slice a_y8_classes example_1.classes.length c_y8_classes), (Value.slice a_y8_rules example_1.rules.length c_y8_rules)]) (vs := [(Value.slice a_y8_volumes example_1.volumes.length c_y8_volumes), (Value.slice a_y8_sectors example_1.sectors.length c_y8_sectors), (Value.slice a91 ((example_1.configs.drop 0).take (2 - 0)).length (c_y8_configs - 0)), (Value.slice a_y8_segments example_1.segments.length c_y8_segments), (Value.slice a_y8_routes example_1.routes.length c_y8_routes), (Value.slice a_y8_airports example_1.airports.length c_y8_airports), (Value.slice a_y8_classes example_1.classes.length c_y8_classes), (Value.slice a_y8_rules example_1.rules.length c_y8_rules)]) (i := 0) ty31 hs95 rfl rfl rfl rfl ?_)
 replace hm := bd hm; obtain ⟨stuck_2, hv96, hm⟩ := hm
 refine Rg_op rfl (op_call Try.call24 (c24_configs_Stuck (a := (⟨example_1.volumes, example_1.sectors, ((example_1.configs.drop 0).take (2 - 0)), example_1.segments, example_1.routes, example_1.airports, example_1.classes, example_1.rules⟩ : XAirspace)) hs95.ltw f_y8_volumes f_y8_sectors f92 f_y8_segments f_y8_routes f_y8_airports f_y8_classes f_y8_rules hv96) rfl ?_)
 rintro v97 w98 ⟨hx99, h100⟩
 have hs101 := hs95.call hx99
 have p102 := Step.ext (O := ks [(some b82, Obj.cells [(Value.slice a_y8_volumes example_1.volumes.length c_y8_volumes), (Value.slice a_y8_sectors example_1.sectors.length c_y8_sectors), (Value.slice a91 ((example_1.configs.drop 0).take (2 - 0)).length (c_y8_configs - 0)), (Value.slice a_y8_segments example_1.segments.length c_y8_segments), (Value.slice a_y8_routes example_1.routes.length c_y8_routes), (Value.slice a_y8_airports example_1.airports.length c_y8_airports), (Value.slice a_y8_classes example_1.classes.length c_y8_classes), (Value.slice a_y8_rules example_1.rules.length c_y8_rules)].toArray 31), (some b9, Obj.cells [(Value.slice a_y8_volumes example_1.volumes.length c_y8_volumes), (Value.slice a_y8_sectors example_1.sectors.length c_y8_sectors), (Value.slice a_y8_configs example_1.configs.length c_y8_configs), (Value.slice a_y8_segments example_1.segments.length c_y8_segments), (Value.slice a_y8_routes example_1.routes.length c_y8_routes), (Value.slice a_y8_airports example_1.airports.length c_y8_airports), (Value.slice a_y8_classes example_1.classes.length c_y8_classes), (Value.slice a_y8_rules example_1.rules.length c_y8_rules)].toArray 31)] O) hx99
 clear hx99
 replace f_y8_volumes := f_y8_volumes.step p102; replace f_y8_sectors := f_y8_sectors.step p102; replace f_y8_configs := f_y8_configs.step p102; replace f_y8_segments := f_y8_segments.step p102; replace f_y8_routes := f_y8_routes.step p102; replace f_y8_airports := f_y8_airports.step p102; replace f_y8_classes := f_y8_classes.step p102; replace f_y8_rules := f_y8_rules.step p102; replace f_y28 := f_y28.step p102; replace f_y43 := f_y43.step p102; replace f_y59 := f_y59.step p102; replace f92 := f92.step p102; clear p102 hs95
 obtain ⟨v103, v104, v105, v106, rfl, h107, h108, h109, h110⟩ := h100
 obtain ⟨rfl, r_y111⟩ := h107
 obtain ⟨rfl, r_y112⟩ := h108
 obtain rfl := h109
 obtain ⟨rfl, r_y114⟩ := h110
 refine Rg_op rfl (op_move (v := (Value.tuple [(Value.int .i64 stuck_2.1), (Value.int .i64 stuck_2.2.1), (Value.bool stuck_2.2.2.1), (Value.int .i64 stuck_2.2.2.2)].toArray)) rfl ?_)
 refine Rg_op rfl (op_extract (v := (Value.int .i64 stuck_2.1)) rfl rfl ?_)
 refine Rg_op rfl (op_extract (v := (Value.int .i64 stuck_2.2.1)) rfl rfl ?_)
 refine Rg_op rfl (op_extract (v := (Value.bool stuck_2.2.2.1)) rfl rfl ?_)
 refine Rg_op rfl (op_extract (v := (Value.int .i64 stuck_2.2.2.2)) rfl rfl ?_)
 refine Rg_op rfl (op_assign (v := (Value.int .i64 stuck_2.1)) rfl ?_)
 refine Rg_op rfl (op_assign (v := (Value.int .i64 stuck_2.2.1)) rfl ?_)
 refine Rg_op rfl (op_assign (v := (Value.bool stuck_2.2.2.1)) rfl ?_)
 refine Rg_op rfl (op_assign (v := (Value.int .i64 stuck_2.2.2.2)) rfl ?_)
 refine Rg_nil ?_
 refine Wp_seq ?_
 refine Wp_reset [] [(1, (Value.pointer (some ⟨b9, 0, none⟩))), (2, (Value.slice a_y28 reach_1.1.length c_y28)), (3, (Value.int .i64 reach_1.2)), (4, (Value.slice a_y43 path_1.1.length c_y43)), (5, (Value.bool path_1.2.1)), (6, (Value.int .i64 path_1.2.2)), (7, (Value.slice a_y59 path_2.1.length c_y59)), (8, (Value.bool path_2.2.1)), (9, (Value.int .i64 path_2.2.2)), (10, (Value.int .i64 stuck_1.1)), (11, (Value.int .i64 stuck_1.2.1)), (12, (Value.bool stuck_1.2.2.1)), (13, (Value.int .i64 stuck_1.2.2.2)), (14, (Value.pointer (some ⟨b82, 0, none⟩))), (15, (Value.int .i64 stuck_2.1)), (16, (Value.int .i64 stuck_2.2.1)), (17, (Value.bool stuck_2.2.2.1)), (18, (Value.int .i64 stuck_2.2.2.2))] rfl ⟨rfl, rfl, rfl, rfl, rfl, rfl, rfl, rfl, rfl, rfl, rfl, rfl, rfl, rfl, rfl, rfl, rfl, rfl, trivial⟩ fun ξ115 => ?_
 refine Wp_region ?_
 refine Rg_op rfl (op_loadA (cs := [(Value.slice a_y8_volumes example_1.volumes.length c_y8_volumes), (Value.slice a_y8_sectors example_1.sectors.length c_y8_sectors), (Value.slice a91 ((example_1.configs.drop 0).take (2 - 0)).length (c_y8_configs - 0)), (Value.slice a_y8_segments example_1.segments.length c_y8_segments), (Value.slice a_y8_routes example_1.routes.length c_y8_routes), (Value.slice a_y8_airports example_1.airports.length c_y8_airports), (Value.slice a_y8_classes example_1.classes.length c_y8_classes), (Value.slice a_y8_rules example_1.rules.length c_y8_rules)]) (vs := [(Value.slice a_y8_volumes example_1.volumes.length c_y8_volumes), (Value.slice a_y8_sectors example_1.sectors.length c_y8_sectors), (Value.slice a91 ((example_1.configs.drop 0).take (2 - 0)).length (c_y8_configs - 0)), (Value.slice a_y8_segments example_1.segments.length c_y8_segments), (Value.slice a_y8_routes example_1.routes.length c_y8_routes), (Value.slice a_y8_airports example_1.airports.length c_y8_airports), (Value.slice a_y8_classes example_1.classes.length c_y8_classes), (Value.slice a_y8_rules example_1.rules.length c_y8_rules)]) (i := 0) ty31 hs101 rfl rfl rfl rfl ?_)
 replace hm := bd hm; obtain ⟨reach_2, hv116, hm⟩ := hm
 refine Rg_op rfl (op_call Try.call17 (c17_configs_Reach (a := (⟨example_1.volumes, example_1.sectors, ((example_1.configs.drop 0).take (2 - 0)), example_1.segments, example_1.routes, example_1.airports, example_1.classes, example_1.rules⟩ : XAirspace)) (from_ := 1) hs101.ltw f_y8_volumes f_y8_sectors f92 f_y8_segments f_y8_routes f_y8_airports f_y8_classes f_y8_rules (show InK .i64 1 from by decide) hv116) rfl ?_)
 rintro v117 w118 ⟨hx119, h120⟩
 have hs121 := hs101.call hx119
 have p122 := Step.ext (O := ks [(some b82, Obj.cells [(Value.slice a_y8_volumes example_1.volumes.length c_y8_volumes), (Value.slice a_y8_sectors example_1.sectors.length c_y8_sectors), (Value.slice a91 ((example_1.configs.drop 0).take (2 - 0)).length (c_y8_configs - 0)), (Value.slice a_y8_segments example_1.segments.length c_y8_segments), (Value.slice a_y8_routes example_1.routes.length c_y8_routes), (Value.slice a_y8_airports example_1.airports.length c_y8_airports), (Value.slice a_y8_classes example_1.classes.length c_y8_classes), (Value.slice a_y8_rules example_1.rules.length c_y8_rules)].toArray 31), (some b9, Obj.cells [(Value.slice a_y8_volumes example_1.volumes.length c_y8_volumes), (Value.slice a_y8_sectors example_1.sectors.length c_y8_sectors), (Value.slice a_y8_configs example_1.configs.length c_y8_configs), (Value.slice a_y8_segments example_1.segments.length c_y8_segments), (Value.slice a_y8_routes example_1.routes.length c_y8_routes), (Value.slice a_y8_airports example_1.airports.length c_y8_airports), (Value.slice a_y8_classes example_1.classes.length c_y8_classes), (Value.slice a_y8_rules example_1.rules.length c_y8_rules)].toArray 31)] O) hx119
 clear hx119
 replace f_y8_volumes := f_y8_volumes.step p122; replace f_y8_sectors := f_y8_sectors.step p122; replace f_y8_configs := f_y8_configs.step p122; replace f_y8_segments := f_y8_segments.step p122; replace f_y8_routes := f_y8_routes.step p122; replace f_y8_airports := f_y8_airports.step p122; replace f_y8_classes := f_y8_classes.step p122; replace f_y8_rules := f_y8_rules.step p122; replace f_y28 := f_y28.step p122; replace f_y43 := f_y43.step p122; replace f_y59 := f_y59.step p122; replace f92 := f92.step p122; clear p122 hs101
 obtain ⟨v123, v124, rfl, h125, h126⟩ := h120
 obtain ⟨a_y127, c_y127, rfl, f_y127⟩ := un_sl h125
 obtain ⟨rfl, r_y128⟩ := h126
 refine Rg_op rfl (op_move (v := (Value.tuple [(Value.slice a_y127 reach_2.1.length c_y127), (Value.int .i64 reach_2.2)].toArray)) rfl ?_)
 refine Rg_op rfl (op_extract (v := (Value.slice a_y127 reach_2.1.length c_y127)) rfl rfl ?_)
 refine Rg_op rfl (op_extract (v := (Value.int .i64 reach_2.2)) rfl rfl ?_)
 refine Rg_op rfl (op_assign (v := (Value.slice a_y127 reach_2.1.length c_y127)) rfl ?_)
 refine Rg_op rfl (op_assign (v := (Value.int .i64 reach_2.2)) rfl ?_)
 refine Rg_nil ?_
 refine Wp_seq ?_
 obtain ⟨hs129, p130⟩ := hs121.sub (bs' := [(some b9, Obj.cells [(Value.slice a_y8_volumes example_1.volumes.length c_y8_volumes), (Value.slice a_y8_sectors example_1.sectors.length c_y8_sectors), (Value.slice a_y8_configs example_1.configs.length c_y8_configs), (Value.slice a_y8_segments example_1.segments.length c_y8_segments), (Value.slice a_y8_routes example_1.routes.length c_y8_routes), (Value.slice a_y8_airports example_1.airports.length c_y8_airports), (Value.slice a_y8_classes example_1.classes.length c_y8_classes), (Value.slice a_y8_rules example_1.rules.length c_y8_rules)].toArray 31)]) (.cons _ (.cons_cons _ List.Sublist.slnil))
 clear f92
 replace f_y8_volumes := f_y8_volumes.step p130; replace f_y8_sectors := f_y8_sectors.step p130; replace f_y8_configs := f_y8_configs.step p130; replace f_y8_segments := f_y8_segments.step p130; replace f_y8_routes := f_y8_routes.step p130; replace f_y8_airports := f_y8_airports.step p130; replace f_y8_classes := f_y8_classes.step p130; replace f_y8_rules := f_y8_rules.step p130; replace f_y28 := f_y28.step p130; replace f_y43 := f_y43.step p130; replace f_y59 := f_y59.step p130; replace f_y127 := f_y127.step p130; clear p130 hs121
 refine Wp_region ?_
 refine Rg_op rfl (op_loadA (cs := [(Value.slice a_y8_volumes example_1.volumes.length c_y8_volumes), (Value.slice a_y8_sectors example_1.sectors.length c_y8_sectors), (Value.slice a_y8_configs example_1.configs.length c_y8_configs), (Value.slice a_y8_segments example_1.segments.length c_y8_segments), (Value.slice a_y8_routes example_1.routes.length c_y8_routes), (Value.slice a_y8_airports example_1.airports.length c_y8_airports), (Value.slice a_y8_classes example_1.classes.length c_y8_classes), (Value.slice a_y8_rules example_1.rules.length c_y8_rules)]) (vs := [(Value.slice a_y8_volumes example_1.volumes.length c_y8_volumes), (Value.slice a_y8_sectors example_1.sectors.length c_y8_sectors), (Value.slice a_y8_configs example_1.configs.length c_y8_configs), (Value.slice a_y8_segments example_1.segments.length c_y8_segments), (Value.slice a_y8_routes example_1.routes.length c_y8_routes), (Value.slice a_y8_airports example_1.airports.length c_y8_airports), (Value.slice a_y8_classes example_1.classes.length c_y8_classes), (Value.slice a_y8_rules example_1.rules.length c_y8_rules)]) (i := 0) ty31 hs129 rfl rfl rfl rfl ?_)
 replace hm := bd hm; obtain ⟨sector_1, hv131, hm⟩ := hm
 refine Rg_op rfl (op_call Try.call13 (c13_configs_Sector (a := example_1) (konfig := 2) (volume := 0) hs129.ltw f_y8_volumes f_y8_sectors f_y8_configs f_y8_segments f_y8_routes f_y8_airports f_y8_classes f_y8_rules (show InK .i64 2 from by decide) (show InK .i64 0 from by decide) hv131) rfl ?_)
 rintro v132 w133 ⟨hx134, h135⟩
 have hs136 := hs129.call hx134
 have p137 := Step.ext (O := ks [(some b9, Obj.cells [(Value.slice a_y8_volumes example_1.volumes.length c_y8_volumes), (Value.slice a_y8_sectors example_1.sectors.length c_y8_sectors), (Value.slice a_y8_configs example_1.configs.length c_y8_configs), (Value.slice a_y8_segments example_1.segments.length c_y8_segments), (Value.slice a_y8_routes example_1.routes.length c_y8_routes), (Value.slice a_y8_airports example_1.airports.length c_y8_airports), (Value.slice a_y8_classes example_1.classes.length c_y8_classes), (Value.slice a_y8_rules example_1.rules.length c_y8_rules)].toArray 31)] O) hx134
 clear hx134
 replace f_y8_volumes := f_y8_volumes.step p137; replace f_y8_sectors := f_y8_sectors.step p137; replace f_y8_configs := f_y8_configs.step p137; replace f_y8_segments := f_y8_segments.step p137; replace f_y8_routes := f_y8_routes.step p137; replace f_y8_airports := f_y8_airports.step p137; replace f_y8_classes := f_y8_classes.step p137; replace f_y8_rules := f_y8_rules.step p137; replace f_y28 := f_y28.step p137; replace f_y43 := f_y43.step p137; replace f_y59 := f_y59.step p137; replace f_y127 := f_y127.step p137; clear p137 hs129
 obtain ⟨v138, v139, rfl, h140, h141⟩ := h135
 obtain ⟨rfl, r_y142⟩ := h140
 obtain rfl := h141
 refine Rg_op rfl (op_move (v := (Value.tuple [(Value.int .i64 sector_1.1), (Value.bool sector_1.2)].toArray)) rfl ?_)
 refine Rg_op rfl (op_extract (v := (Value.int .i64 sector_1.1)) rfl rfl ?_)
 refine Rg_op rfl (op_extract (v := (Value.bool sector_1.2)) rfl rfl ?_)
 refine Rg_op rfl (op_assign (v := (Value.int .i64 sector_1.1)) rfl ?_)
 refine Rg_op rfl (op_assign (v := (Value.bool sector_1.2)) rfl ?_)
 refine Rg_nil ?_
 refine Wp_seq ?_
 refine Wp_region ?_
 refine Rg_op rfl (op_build (vs := [(Value.slice none 0 0), (Value.slice none 0 0), (Value.slice none 0 0), (Value.slice none 0 0), (Value.slice none 0 0), (Value.slice none 0 0), (Value.slice none 0 0), (Value.slice none 0 0)]) (parts := []) ty31 pl31 rfl ?_)
 replace hm := bd hm; obtain ⟨sector_2, hv144, hm⟩ := hm
 refine Rg_op rfl (op_call Try.call13 (c13_configs_Sector (a := (⟨([] : List XVolume), ([] : List XSector), ([] : List XConfig), ([] : List XSegment), ([] : List XRoute), ([] : List XAirport), ([] : List XClass), ([] : List XRule)⟩ : XAirspace)) (konfig := 0) (volume := 0) hs136.ltw SlR.nil_ SlR.nil_ SlR.nil_ SlR.nil_ SlR.nil_ SlR.nil_ SlR.nil_ SlR.nil_ (show InK .i64 0 from by decide) (show InK .i64 0 from by decide) hv144) rfl ?_)
 rintro v145 w146 ⟨hx147, h148⟩
 have hs149 := hs136.call hx147
 have p150 := Step.ext (O := ks [(some b9, Obj.cells [(Value.slice a_y8_volumes example_1.volumes.length c_y8_volumes), (Value.slice a_y8_sectors example_1.sectors.length c_y8_sectors), (Value.slice a_y8_configs example_1.configs.length c_y8_configs), (Value.slice a_y8_segments example_1.segments.length c_y8_segments), (Value.slice a_y8_routes example_1.routes.length c_y8_routes), (Value.slice a_y8_airports example_1.airports.length c_y8_airports), (Value.slice a_y8_classes example_1.classes.length c_y8_classes), (Value.slice a_y8_rules example_1.rules.length c_y8_rules)].toArray 31)] O) hx147
 clear hx147
 replace f_y8_volumes := f_y8_volumes.step p150; replace f_y8_sectors := f_y8_sectors.step p150; replace f_y8_configs := f_y8_configs.step p150; replace f_y8_segments := f_y8_segments.step p150; replace f_y8_routes := f_y8_routes.step p150; replace f_y8_airports := f_y8_airports.step p150; replace f_y8_classes := f_y8_classes.step p150; replace f_y8_rules := f_y8_rules.step p150; replace f_y28 := f_y28.step p150; replace f_y43 := f_y43.step p150; replace f_y59 := f_y59.step p150; replace f_y127 := f_y127.step p150; clear p150 hs136
 obtain ⟨v151, v152, rfl, h153, h154⟩ := h148
 obtain ⟨rfl, r_y155⟩ := h153
 obtain rfl := h154
 refine Rg_op rfl (op_move (v := (Value.tuple [(Value.int .i64 sector_2.1), (Value.bool sector_2.2)].toArray)) rfl ?_)
 refine Rg_op rfl (op_extract (v := (Value.int .i64 sector_2.1)) rfl rfl ?_)
 refine Rg_op rfl (op_extract (v := (Value.bool sector_2.2)) rfl rfl ?_)
 refine Rg_op rfl (op_assign (v := (Value.int .i64 sector_2.1)) rfl ?_)
 refine Rg_op rfl (op_assign (v := (Value.bool sector_2.2)) rfl ?_)
 refine Rg_nil ?_
 refine Wp_reset [] [(1, (Value.pointer (some ⟨b9, 0, none⟩))), (2, (Value.slice a_y28 reach_1.1.length c_y28)), (3, (Value.int .i64 reach_1.2)), (4, (Value.slice a_y43 path_1.1.length c_y43)), (5, (Value.bool path_1.2.1)), (6, (Value.int .i64 path_1.2.2)), (7, (Value.slice a_y59 path_2.1.length c_y59)), (8, (Value.bool path_2.2.1)), (9, (Value.int .i64 path_2.2.2)), (10, (Value.int .i64 stuck_1.1)), (11, (Value.int .i64 stuck_1.2.1)), (12, (Value.bool stuck_1.2.2.1)), (13, (Value.int .i64 stuck_1.2.2.2)), (15, (Value.int .i64 stuck_2.1)), (16, (Value.int .i64 stuck_2.2.1)), (17, (Value.bool stuck_2.2.2.1)), (18, (Value.int .i64 stuck_2.2.2.2)), (19, (Value.slice a_y127 reach_2.1.length c_y127)), (20, (Value.int .i64 reach_2.2)), (21, (Value.int .i64 sector_1.1)), (22, (Value.bool sector_1.2)), (24, (Value.bool sector_2.2))] rfl ⟨rfl, rfl, rfl, rfl, rfl, rfl, rfl, rfl, rfl, rfl, rfl, rfl, rfl, rfl, rfl, rfl, rfl, rfl, rfl, rfl, rfl, rfl, trivial⟩ fun ξ157 => ?_
 replace hm := jn_elim hm; obtain ⟨k159, hk160, hm⟩ := hm
 refine Wp_seqJ [25, 78, 79, 80, 81, 82, 83, 84, 85, 86, 87, 88, 89, 90, 91, 92, 93, 94, 95, 96, 97, 98, 99, 100, 101, 102, 103, 104, 105, 106, 107, 108, 109, 110, 111, 112, 113, 114, 115, 116, 117, 118, 119, 120, 121, 122, 123, 124] (fun fr w' => ∃ (good_1 : Bool) (Ebs : Ents), Ebs = [(some b9, Obj.cells [(Value.slice a_y8_volumes example_1.volumes.length c_y8_volumes), (Value.slice a_y8_sectors example_1.sectors.length c_y8_sectors), (Value.slice a_y8_configs example_1.configs.length c_y8_configs), (Value.slice a_y8_segments example_1.segments.length c_y8_segments), (Value.slice a_y8_routes example_1.routes.length c_y8_routes), (Value.slice a_y8_airports example_1.airports.length c_y8_airports), (Value.slice a_y8_classes example_1.classes.length c_y8_classes), (Value.slice a_y8_rules example_1.rules.length c_y8_rules)].toArray 31)] ∧ fr [] [(25, (Value.bool good_1))] ∧ Step (ks [(some b9, Obj.cells [(Value.slice a_y8_volumes example_1.volumes.length c_y8_volumes), (Value.slice a_y8_sectors example_1.sectors.length c_y8_sectors), (Value.slice a_y8_configs example_1.configs.length c_y8_configs), (Value.slice a_y8_segments example_1.segments.length c_y8_segments), (Value.slice a_y8_routes example_1.routes.length c_y8_routes), (Value.slice a_y8_airports example_1.airports.length c_y8_airports), (Value.slice a_y8_classes example_1.classes.length c_y8_classes), (Value.slice a_y8_rules example_1.rules.length c_y8_rules)].toArray 31)] O) w146 (ks Ebs O) w' ∧ St ⟨w, [], []⟩ O w' Ebs ∧ k159 good_1 = some x) ?_ ?_
 ·
  rintro ρ166 w162 ⟨good_1, Ebs, hEbs, hfr165, hst164, hs163, hm⟩
  replace hm := jnE1 hk160 hm
  subst hEbs; rw [hfr165.eq]; clear hfr165
  replace f_y8_volumes := f_y8_volumes.step hst164; replace f_y8_sectors := f_y8_sectors.step hst164; replace f_y8_configs := f_y8_configs.step hst164; replace f_y8_segments := f_y8_segments.step hst164; replace f_y8_routes := f_y8_routes.step hst164; replace f_y8_airports := f_y8_airports.step hst164; replace f_y8_classes := f_y8_classes.step hst164; replace f_y8_rules := f_y8_rules.step hst164; replace f_y28 := f_y28.step hst164; replace f_y43 := f_y43.step hst164; replace f_y59 := f_y59.step hst164; replace f_y127 := f_y127.step hst164; clear hst164 hs149
  refine Wp_reset [] [(1, (Value.pointer (some ⟨b9, 0, none⟩))), (15, (Value.int .i64 stuck_2.1)), (16, (Value.int .i64 stuck_2.2.1)), (17, (Value.bool stuck_2.2.2.1)), (18, (Value.int .i64 stuck_2.2.2.2)), (19, (Value.slice a_y127 reach_2.1.length c_y127)), (20, (Value.int .i64 reach_2.2)), (21, (Value.int .i64 sector_1.1)), (22, (Value.bool sector_1.2)), (24, (Value.bool sector_2.2)), (25, (Value.bool good_1))] rfl ⟨rfl, rfl, rfl, rfl, rfl, rfl, rfl, rfl, rfl, rfl, rfl, trivial⟩ fun ξ167 => ?_
  replace hm := jn_elim hm; obtain ⟨k169, hk170, hm⟩ := hm
  refine Wp_seqJ [0, 125, 126, 127, 128, 129, 130, 131, 132, 133, 134, 135, 136, 137, 138, 139, 140, 141, 142, 143, 144, 145, 146, 147, 148, 149, 150, 151, 152, 153, 154, 155, 156, 157, 158, 159, 160, 161, 162, 163, 164, 165, 166, 167, 168, 169, 170, 171, 172, 173, 174, 175, 176, 177, 178, 179, 180, 181, 182, 183, 184] (fun fr w' => ∃ (v_1 : Bool) (Ebs : Ents), Ebs = [(some b9, Obj.cells [(Value.slice a_y8_volumes example_1.volumes.length c_y8_volumes), (Value.slice a_y8_sectors example_1.sectors.length c_y8_sectors), (Value.slice a_y8_configs example_1.configs.length c_y8_configs), (Value.slice a_y8_segments example_1.segments.length c_y8_segments), (Value.slice a_y8_routes example_1.routes.length c_y8_routes), (Value.slice a_y8_airports example_1.airports.length c_y8_airports), (Value.slice a_y8_classes example_1.classes.length c_y8_classes), (Value.slice a_y8_rules example_1.rules.length c_y8_rules)].toArray 31)] ∧ fr [] [(0, (Value.bool v_1))] ∧ Step (ks [(some b9, Obj.cells [(Value.slice a_y8_volumes example_1.volumes.length c_y8_volumes), (Value.slice a_y8_sectors example_1.sectors.length c_y8_sectors), (Value.slice a_y8_configs example_1.configs.length c_y8_configs), (Value.slice a_y8_segments example_1.segments.length c_y8_segments), (Value.slice a_y8_routes example_1.routes.length c_y8_routes), (Value.slice a_y8_airports example_1.airports.length c_y8_airports), (Value.slice a_y8_classes example_1.classes.length c_y8_classes), (Value.slice a_y8_rules example_1.rules.length c_y8_rules)].toArray 31)] O) w162 (ks Ebs O) w' ∧ St ⟨w, [], []⟩ O w' Ebs ∧ k169 v_1 = some x) ?_ ?_
  ·
   rintro ρ176 w172 ⟨v_1, Ebs, hEbs, hfr175, hst174, hs173, hm⟩
   replace hm := jnE1 hk170 hm
   subst hEbs; rw [hfr175.eq]; clear hfr175
   replace f_y8_volumes := f_y8_volumes.step hst174; replace f_y8_sectors := f_y8_sectors.step hst174; replace f_y8_configs := f_y8_configs.step hst174; replace f_y8_segments := f_y8_segments.step hst174; replace f_y8_routes := f_y8_routes.step hst174; replace f_y8_airports := f_y8_airports.step hst174; replace f_y8_classes := f_y8_classes.step hst174; replace f_y8_rules := f_y8_rules.step hst174; replace f_y28 := f_y28.step hst174; replace f_y43 := f_y43.step hst174; replace f_y59 := f_y59.step hst174; replace f_y127 := f_y127.step hst174; clear hst174 hs163
   refine Wp_ret ?_
   have hz := step_all hs173
   replace f_y8_volumes := f_y8_volumes.step hz; replace f_y8_sectors := f_y8_sectors.step hz; replace f_y8_configs := f_y8_configs.step hz; replace f_y8_segments := f_y8_segments.step hz; replace f_y8_routes := f_y8_routes.step hz; replace f_y8_airports := f_y8_airports.step hz; replace f_y8_classes := f_y8_classes.step hz; replace f_y8_rules := f_y8_rules.step hz; replace f_y28 := f_y28.step hz; replace f_y43 := f_y43.step hz; replace f_y59 := f_y59.step hz; replace f_y127 := f_y127.step hz
   refine ⟨_, (show Closes [] _ _ from rfl), [(Value.bool v_1)], ⟨rfl, trivial⟩, hs173.ext, ?_⟩
   exact Vr.eq (a := vB) (x := v_1) rfl (Option.some.inj hm)
  ·
   intro K171 hK171
   have ch177 := Step.refl (ks [(some b9, Obj.cells [(Value.slice a_y8_volumes example_1.volumes.length c_y8_volumes), (Value.slice a_y8_sectors example_1.sectors.length c_y8_sectors), (Value.slice a_y8_configs example_1.configs.length c_y8_configs), (Value.slice a_y8_segments example_1.segments.length c_y8_segments), (Value.slice a_y8_routes example_1.routes.length c_y8_routes), (Value.slice a_y8_airports example_1.airports.length c_y8_airports), (Value.slice a_y8_classes example_1.classes.length c_y8_classes), (Value.slice a_y8_rules example_1.rules.length c_y8_rules)].toArray 31)] O) w162
   clear f_y28 f_y43 f_y59
   refine Wp_region ?_
   refine Rg_op rfl (op_move (v := (Value.bool good_1)) rfl ?_)
   refine Rg_op rfl (op_move (v := (Value.bool good_1)) rfl ?_)
   refine Rg_case (fun hg178 => ?_) (fun hg178 => ?_)
   ·
    replace hm := bif_t hm hg178
    refine Rg_opg rfl rfl rfl (op_move (v := (Value.int .i64 stuck_2.2.2.2)) rfl ?_)
    refine Rg_opg rfl rfl rfl (op_eql rfl rfl ?_)
    refine Rg_op rfl (op_pick_t (v := (Value.bool (decide (stuck_2.2.2.2 = 0)))) rfl rfl ?_)
    refine Rg_op rfl (op_move (v := (Value.bool (decide (stuck_2.2.2.2 = 0)))) rfl ?_)
    refine Rg_case (fun hg179 => ?_) (fun hg179 => ?_)
    ·
     replace hm := bif_t hm hg179
     refine Rg_opg rfl rfl rfl (op_move (v := (Value.bool stuck_2.2.2.1)) rfl ?_)
     refine Rg_op rfl (op_pick_t (v := (Value.bool stuck_2.2.2.1)) rfl rfl ?_)
     refine Rg_op rfl (op_move (v := (Value.bool stuck_2.2.2.1)) rfl ?_)
     refine Rg_case (fun hg180 => ?_) (fun hg180 => ?_)
     ·
      replace hm := bif_t hm hg180
      refine Rg_opg rfl rfl rfl (op_move (v := (Value.int .i64 stuck_2.1)) rfl ?_)
      refine Rg_opg rfl rfl rfl (op_eql rfl rfl ?_)
      refine Rg_op rfl (op_pick_t (v := (Value.bool (decide (stuck_2.1 = 0)))) rfl rfl ?_)
      refine Rg_op rfl (op_move (v := (Value.bool (decide (stuck_2.1 = 0)))) rfl ?_)
      refine Rg_case (fun hg181 => ?_) (fun hg181 => ?_)
      ·
       replace hm := bif_t hm hg181
       refine Rg_opg rfl rfl rfl (op_move (v := (Value.int .i64 stuck_2.2.1)) rfl ?_)
       refine Rg_opg rfl rfl rfl (op_eql rfl rfl ?_)
       refine Rg_op rfl (op_pick_t (v := (Value.bool (decide (stuck_2.2.1 = 1)))) rfl rfl ?_)
       refine Rg_op rfl (op_move (v := (Value.bool (decide (stuck_2.2.1 = 1)))) rfl ?_)
       refine Rg_case (fun hg182 => ?_) (fun hg182 => ?_)
       ·
        replace hm := bif_t hm hg182
        refine Rg_opg rfl rfl rfl (op_move (v := (Value.int .i64 reach_2.2)) rfl ?_)
        refine Rg_opg rfl rfl rfl (op_eql rfl rfl ?_)
        refine Rg_op rfl (op_pick_t (v := (Value.bool (decide (reach_2.2 = 0)))) rfl rfl ?_)
        refine Rg_op rfl (op_move (v := (Value.bool (decide (reach_2.2 = 0)))) rfl ?_)
        refine Rg_case (fun hg183 => ?_) (fun hg183 => ?_)
        ·
         replace hm := bif_t hm hg183
         refine Rg_opg rfl rfl rfl (op_move (v := (Value.slice a_y127 reach_2.1.length c_y127)) rfl ?_)
         refine Rg_opg rfl rfl rfl (op_buildSlice (cs := [(Value.int .i64 1)]) (parts := [(0, .const (.int .i64 1))]) ty39 ty3 hs163 (by decide) rfl ?_)
         intro b184 w185 hx188 p186 hs187
         replace f_y8_volumes := f_y8_volumes.step p186; replace f_y8_sectors := f_y8_sectors.step p186; replace f_y8_configs := f_y8_configs.step p186; replace f_y8_segments := f_y8_segments.step p186; replace f_y8_routes := f_y8_routes.step p186; replace f_y8_airports := f_y8_airports.step p186; replace f_y8_classes := f_y8_classes.step p186; replace f_y8_rules := f_y8_rules.step p186; replace f_y127 := f_y127.step p186; replace ch177 := ch177.trans p186; clear p186 hs163
         obtain ⟨hs191, p192, f190⟩ := St.publish (i := 0) (o := 0) (c := 1) (xs := [1]) hs187 rfl (show Els (rInt .i64) _ _ [(Value.int .i64 1)] [1] from ⟨_, _, rfl, (mk_int (show InK .i64 1 from by decide)), Els.nil⟩) (le_lit rfl) (le_lit rfl) (le_lit rfl)
         replace f_y8_volumes := f_y8_volumes.step p192; replace f_y8_sectors := f_y8_sectors.step p192; replace f_y8_configs := f_y8_configs.step p192; replace f_y8_segments := f_y8_segments.step p192; replace f_y8_routes := f_y8_routes.step p192; replace f_y8_airports := f_y8_airports.step p192; replace f_y8_classes := f_y8_classes.step p192; replace f_y8_rules := f_y8_rules.step p192; replace f_y127 := f_y127.step p192; replace ch177 := ch177.trans p192; clear p192 hs187
         replace hm := bd hm; obtain ⟨sameints_1, hv193, hm⟩ := hm
         refine Rg_opg rfl rfl rfl (op_call Try.call21 (c21_overflightref10_SameInts (a := reach_2.1) (b := [1]) hs191.ltw f_y127 f190 hv193) rfl ?_)
         rintro v194 w195 ⟨hx196, h197⟩
         have hs198 := hs191.call hx196
         have p199 := Step.ext (O := ks [(some b9, Obj.cells [(Value.slice a_y8_volumes example_1.volumes.length c_y8_volumes), (Value.slice a_y8_sectors example_1.sectors.length c_y8_sectors), (Value.slice a_y8_configs example_1.configs.length c_y8_configs), (Value.slice a_y8_segments example_1.segments.length c_y8_segments), (Value.slice a_y8_routes example_1.routes.length c_y8_routes), (Value.slice a_y8_airports example_1.airports.length c_y8_airports), (Value.slice a_y8_classes example_1.classes.length c_y8_classes), (Value.slice a_y8_rules example_1.rules.length c_y8_rules)].toArray 31)] O) hx196
         clear hx196
         replace f_y8_volumes := f_y8_volumes.step p199; replace f_y8_sectors := f_y8_sectors.step p199; replace f_y8_configs := f_y8_configs.step p199; replace f_y8_segments := f_y8_segments.step p199; replace f_y8_routes := f_y8_routes.step p199; replace f_y8_airports := f_y8_airports.step p199; replace f_y8_classes := f_y8_classes.step p199; replace f_y8_rules := f_y8_rules.step p199; replace f_y127 := f_y127.step p199; replace f190 := f190.step p199; replace ch177 := ch177.trans p199; clear p199 hs191
         obtain rfl := h197
         refine Rg_op rfl (op_pick_t (v := (Value.bool sameints_1)) rfl rfl ?_)
         refine Rg_op rfl (op_move (v := (Value.bool sameints_1)) rfl ?_)
         refine Rg_case (fun hg201 => ?_) (fun hg201 => ?_)
         ·
          replace hm := bif_t hm hg201
          refine Rg_opg rfl rfl rfl (op_move (v := (Value.bool sector_1.2)) rfl ?_)
          refine Rg_op rfl (op_pick_t (v := (Value.bool sector_1.2)) rfl rfl ?_)
          refine Rg_op rfl (op_move (v := (Value.bool sector_1.2)) rfl ?_)
          refine Rg_case (fun hg202 => ?_) (fun hg202 => ?_)
          ·
           replace hm := bif_t hm hg202
           refine Rg_opg rfl rfl rfl (op_move (v := (Value.int .i64 sector_1.1)) rfl ?_)
           refine Rg_opg rfl rfl rfl (op_eql rfl rfl ?_)
           refine Rg_op rfl (op_pick_t (v := (Value.bool (decide (sector_1.1 = 3)))) rfl rfl ?_)
           refine Rg_op rfl (op_move (v := (Value.bool (decide (sector_1.1 = 3)))) rfl ?_)
           refine Rg_case (fun hg203 => ?_) (fun hg203 => ?_)
           ·
            replace hm := bif_t hm hg203
            refine Rg_opg rfl rfl rfl (op_move (v := (Value.bool sector_2.2)) rfl ?_)
            refine Rg_opg rfl rfl rfl (op_not rfl ?_)
            refine Rg_op rfl (op_pick_t (v := (Value.bool (!sector_2.2))) rfl rfl ?_)
            refine Rg_op rfl (op_move (v := (Value.bool (!sector_2.2))) rfl ?_)
            refine Rg_case (fun hg204 => ?_) (fun hg204 => ?_)
            ·
             replace hm := bif_t hm hg204
             refine Rg_opg rfl rfl rfl (op_loadA (cs := [(Value.slice a_y8_volumes example_1.volumes.length c_y8_volumes), (Value.slice a_y8_sectors example_1.sectors.length c_y8_sectors), (Value.slice a_y8_configs example_1.configs.length c_y8_configs), (Value.slice a_y8_segments example_1.segments.length c_y8_segments), (Value.slice a_y8_routes example_1.routes.length c_y8_routes), (Value.slice a_y8_airports example_1.airports.length c_y8_airports), (Value.slice a_y8_classes example_1.classes.length c_y8_classes), (Value.slice a_y8_rules example_1.rules.length c_y8_rules)]) (vs := [(Value.slice a_y8_volumes example_1.volumes.length c_y8_volumes), (Value.slice a_y8_sectors example_1.sectors.length c_y8_sectors), (Value.slice a_y8_configs example_1.configs.length c_y8_configs), (Value.slice a_y8_segments example_1.segments.length c_y8_segments), (Value.slice a_y8_routes example_1.routes.length c_y8_routes), (Value.slice a_y8_airports example_1.airports.length c_y8_airports), (Value.slice a_y8_classes example_1.classes.length c_y8_classes), (Value.slice a_y8_rules example_1.rules.length c_y8_rules)]) (i := 0) ty31 hs198 rfl rfl rfl rfl ?_)
             replace hm := bd hm; obtain ⟨check_1, hv205, hm⟩ := hm
             refine Rg_opg rfl rfl rfl (op_call Try.call15 (c15_configs_Check (a := example_1) hs198.ltw f_y8_volumes f_y8_sectors f_y8_configs f_y8_segments f_y8_routes f_y8_airports f_y8_classes f_y8_rules hv205) rfl ?_)
             rintro v206 w207 ⟨hx208, h209⟩
             have hs210 := hs198.call hx208
             have p211 := Step.ext (O := ks [(some b9, Obj.cells [(Value.slice a_y8_volumes example_1.volumes.length c_y8_volumes), (Value.slice a_y8_sectors example_1.sectors.length c_y8_sectors), (Value.slice a_y8_configs example_1.configs.length c_y8_configs), (Value.slice a_y8_segments example_1.segments.length c_y8_segments), (Value.slice a_y8_routes example_1.routes.length c_y8_routes), (Value.slice a_y8_airports example_1.airports.length c_y8_airports), (Value.slice a_y8_classes example_1.classes.length c_y8_classes), (Value.slice a_y8_rules example_1.rules.length c_y8_rules)].toArray 31)] O) hx208
             clear hx208
             replace f_y8_volumes := f_y8_volumes.step p211; replace f_y8_sectors := f_y8_sectors.step p211; replace f_y8_configs := f_y8_configs.step p211; replace f_y8_segments := f_y8_segments.step p211; replace f_y8_routes := f_y8_routes.step p211; replace f_y8_airports := f_y8_airports.step p211; replace f_y8_classes := f_y8_classes.step p211; replace f_y8_rules := f_y8_rules.step p211; replace f_y127 := f_y127.step p211; replace f190 := f190.step p211; replace ch177 := ch177.trans p211; clear p211 hs198
             obtain ⟨rfl, r_y212⟩ := h209
             refine Rg_opg rfl rfl rfl (op_eql rfl rfl ?_)
             refine Rg_op rfl (op_pick_t (v := (Value.bool (decide (check_1 = 0)))) rfl rfl ?_)
             refine Rg_op rfl (op_move (v := (Value.bool (decide (check_1 = 0)))) rfl ?_)
             refine Rg_case (fun hg213 => ?_) (fun hg213 => ?_)
             ·
              replace hm := bif_t hm hg213
              refine Rg_opg rfl rfl rfl (op_build (vs := [(Value.slice none 0 0), (Value.slice none 0 0), (Value.slice none 0 0), (Value.slice none 0 0), (Value.slice none 0 0), (Value.slice none 0 0), (Value.slice none 0 0), (Value.slice none 0 0)]) (parts := []) ty31 pl31 rfl ?_)
              replace hm := bd hm; obtain ⟨check_2, hv214, hm⟩ := hm
              refine Rg_opg rfl rfl rfl (op_call Try.call15 (c15_configs_Check (a := (⟨([] : List XVolume), ([] : List XSector), ([] : List XConfig), ([] : List XSegment), ([] : List XRoute), ([] : List XAirport), ([] : List XClass), ([] : List XRule)⟩ : XAirspace)) hs210.ltw SlR.nil_ SlR.nil_ SlR.nil_ SlR.nil_ SlR.nil_ SlR.nil_ SlR.nil_ SlR.nil_ hv214) rfl ?_)
              rintro v215 w216 ⟨hx217, h218⟩
              have hs219 := hs210.call hx217
              have p220 := Step.ext (O := ks [(some b9, Obj.cells [(Value.slice a_y8_volumes example_1.volumes.length c_y8_volumes), (Value.slice a_y8_sectors example_1.sectors.length c_y8_sectors), (Value.slice a_y8_configs example_1.configs.length c_y8_configs), (Value.slice a_y8_segments example_1.segments.length c_y8_segments), (Value.slice a_y8_routes example_1.routes.length c_y8_routes), (Value.slice a_y8_airports example_1.airports.length c_y8_airports), (Value.slice a_y8_classes example_1.classes.length c_y8_classes), (Value.slice a_y8_rules example_1.rules.length c_y8_rules)].toArray 31)] O) hx217
              clear hx217
              replace f_y8_volumes := f_y8_volumes.step p220; replace f_y8_sectors := f_y8_sectors.step p220; replace f_y8_configs := f_y8_configs.step p220; replace f_y8_segments := f_y8_segments.step p220; replace f_y8_routes := f_y8_routes.step p220; replace f_y8_airports := f_y8_airports.step p220; replace f_y8_classes := f_y8_classes.step p220; replace f_y8_rules := f_y8_rules.step p220; replace f_y127 := f_y127.step p220; replace f190 := f190.step p220; replace ch177 := ch177.trans p220; clear p220 hs210
              obtain ⟨rfl, r_y221⟩ := h218
              refine Rg_opg rfl rfl rfl (op_eql rfl rfl ?_)
              refine Rg_op rfl (op_pick_t (v := (Value.bool (decide (check_2 = 100)))) rfl rfl ?_)
              refine Rg_op rfl (op_move (v := (Value.bool (decide (check_2 = 100)))) rfl ?_)
              refine Rg_case (fun hg222 => ?_) (fun hg222 => ?_)
              ·
               replace hm := bif_t hm hg222
               refine Rg_opg rfl rfl rfl (op_loadA (cs := [(Value.slice a_y8_volumes example_1.volumes.length c_y8_volumes), (Value.slice a_y8_sectors example_1.sectors.length c_y8_sectors), (Value.slice a_y8_configs example_1.configs.length c_y8_configs), (Value.slice a_y8_segments example_1.segments.length c_y8_segments), (Value.slice a_y8_routes example_1.routes.length c_y8_routes), (Value.slice a_y8_airports example_1.airports.length c_y8_airports), (Value.slice a_y8_classes example_1.classes.length c_y8_classes), (Value.slice a_y8_rules example_1.rules.length c_y8_rules)]) (vs := [(Value.slice a_y8_volumes example_1.volumes.length c_y8_volumes), (Value.slice a_y8_sectors example_1.sectors.length c_y8_sectors), (Value.slice a_y8_configs example_1.configs.length c_y8_configs), (Value.slice a_y8_segments example_1.segments.length c_y8_segments), (Value.slice a_y8_routes example_1.routes.length c_y8_routes), (Value.slice a_y8_airports example_1.airports.length c_y8_airports), (Value.slice a_y8_classes example_1.classes.length c_y8_classes), (Value.slice a_y8_rules example_1.rules.length c_y8_rules)]) (i := 0) ty31 hs219 rfl rfl rfl rfl ?_)
               replace hm := bd hm; obtain ⟨step_1, hv223, hm⟩ := hm
               refine Rg_opg rfl rfl rfl (op_call Try.call19 (c19_configs_Step (a := example_1) (from_ := 0) (to := 2) hs219.ltw f_y8_volumes f_y8_sectors f_y8_configs f_y8_segments f_y8_routes f_y8_airports f_y8_classes f_y8_rules (show InK .i64 0 from by decide) (show InK .i64 2 from by decide) hv223) rfl ?_)
               rintro v224 w225 ⟨hx226, h227⟩
               have hs228 := hs219.call hx226
               have p229 := Step.ext (O := ks [(some b9, Obj.cells [(Value.slice a_y8_volumes example_1.volumes.length c_y8_volumes), (Value.slice a_y8_sectors example_1.sectors.length c_y8_sectors), (Value.slice a_y8_configs example_1.configs.length c_y8_configs), (Value.slice a_y8_segments example_1.segments.length c_y8_segments), (Value.slice a_y8_routes example_1.routes.length c_y8_routes), (Value.slice a_y8_airports example_1.airports.length c_y8_airports), (Value.slice a_y8_classes example_1.classes.length c_y8_classes), (Value.slice a_y8_rules example_1.rules.length c_y8_rules)].toArray 31)] O) hx226
               clear hx226
               replace f_y8_volumes := f_y8_volumes.step p229; replace f_y8_sectors := f_y8_sectors.step p229; replace f_y8_configs := f_y8_configs.step p229; replace f_y8_segments := f_y8_segments.step p229; replace f_y8_routes := f_y8_routes.step p229; replace f_y8_airports := f_y8_airports.step p229; replace f_y8_classes := f_y8_classes.step p229; replace f_y8_rules := f_y8_rules.step p229; replace f_y127 := f_y127.step p229; replace f190 := f190.step p229; replace ch177 := ch177.trans p229; clear p229 hs219
               obtain rfl := h227
               refine Rg_op rfl (op_pick_t (v := (Value.bool step_1)) rfl rfl ?_)
               refine Rg_op rfl (op_move (v := (Value.bool step_1)) rfl ?_)
               refine Rg_case (fun hg231 => ?_) (fun hg231 => ?_)
               ·
                replace hm := bif_t hm hg231
                refine Rg_opg rfl rfl rfl (op_loadA (cs := [(Value.slice a_y8_volumes example_1.volumes.length c_y8_volumes), (Value.slice a_y8_sectors example_1.sectors.length c_y8_sectors), (Value.slice a_y8_configs example_1.configs.length c_y8_configs), (Value.slice a_y8_segments example_1.segments.length c_y8_segments), (Value.slice a_y8_routes example_1.routes.length c_y8_routes), (Value.slice a_y8_airports example_1.airports.length c_y8_airports), (Value.slice a_y8_classes example_1.classes.length c_y8_classes), (Value.slice a_y8_rules example_1.rules.length c_y8_rules)]) (vs := [(Value.slice a_y8_volumes example_1.volumes.length c_y8_volumes), (Value.slice a_y8_sectors example_1.sectors.length c_y8_sectors), (Value.slice a_y8_configs example_1.configs.length c_y8_configs), (Value.slice a_y8_segments example_1.segments.length c_y8_segments), (Value.slice a_y8_routes example_1.routes.length c_y8_routes), (Value.slice a_y8_airports example_1.airports.length c_y8_airports), (Value.slice a_y8_classes example_1.classes.length c_y8_classes), (Value.slice a_y8_rules example_1.rules.length c_y8_rules)]) (i := 0) ty31 hs228 rfl rfl rfl rfl ?_)
                replace hm := bd hm; obtain ⟨step_2, hv232, hm⟩ := hm
                refine Rg_opg rfl rfl rfl (op_call Try.call19 (c19_configs_Step (a := example_1) (from_ := 0) (to := 1) hs228.ltw f_y8_volumes f_y8_sectors f_y8_configs f_y8_segments f_y8_routes f_y8_airports f_y8_classes f_y8_rules (show InK .i64 0 from by decide) (show InK .i64 1 from by decide) hv232) rfl ?_)
                rintro v233 w234 ⟨hx235, h236⟩
                have hs237 := hs228.call hx235
                have p238 := Step.ext (O := ks [(some b9, Obj.cells [(Value.slice a_y8_volumes example_1.volumes.length c_y8_volumes), (Value.slice a_y8_sectors example_1.sectors.length c_y8_sectors), (Value.slice a_y8_configs example_1.configs.length c_y8_configs), (Value.slice a_y8_segments example_1.segments.length c_y8_segments), (Value.slice a_y8_routes example_1.routes.length c_y8_routes), (Value.slice a_y8_airports example_1.airports.length c_y8_airports), (Value.slice a_y8_classes example_1.classes.length c_y8_classes), (Value.slice a_y8_rules example_1.rules.length c_y8_rules)].toArray 31)] O) hx235
                clear hx235
                replace f_y8_volumes := f_y8_volumes.step p238; replace f_y8_sectors := f_y8_sectors.step p238; replace f_y8_configs := f_y8_configs.step p238; replace f_y8_segments := f_y8_segments.step p238; replace f_y8_routes := f_y8_routes.step p238; replace f_y8_airports := f_y8_airports.step p238; replace f_y8_classes := f_y8_classes.step p238; replace f_y8_rules := f_y8_rules.step p238; replace f_y127 := f_y127.step p238; replace f190 := f190.step p238; replace ch177 := ch177.trans p238; clear p238 hs228
                obtain rfl := h236
                refine Rg_opg rfl rfl rfl (op_not rfl ?_)
                refine Rg_op rfl (op_pick_t (v := (Value.bool (!step_2))) rfl rfl ?_)
                refine Rg_op rfl (op_move (v := (Value.bool (!step_2))) rfl ?_)
                refine Rg_case (fun hg240 => ?_) (fun hg240 => ?_)
                ·
                 replace hm := bif_t hm hg240
                 refine Rg_opg rfl rfl rfl (op_loadA (cs := [(Value.slice a_y8_volumes example_1.volumes.length c_y8_volumes), (Value.slice a_y8_sectors example_1.sectors.length c_y8_sectors), (Value.slice a_y8_configs example_1.configs.length c_y8_configs), (Value.slice a_y8_segments example_1.segments.length c_y8_segments), (Value.slice a_y8_routes example_1.routes.length c_y8_routes), (Value.slice a_y8_airports example_1.airports.length c_y8_airports), (Value.slice a_y8_classes example_1.classes.length c_y8_classes), (Value.slice a_y8_rules example_1.rules.length c_y8_rules)]) (vs := [(Value.slice a_y8_volumes example_1.volumes.length c_y8_volumes), (Value.slice a_y8_sectors example_1.sectors.length c_y8_sectors), (Value.slice a_y8_configs example_1.configs.length c_y8_configs), (Value.slice a_y8_segments example_1.segments.length c_y8_segments), (Value.slice a_y8_routes example_1.routes.length c_y8_routes), (Value.slice a_y8_airports example_1.airports.length c_y8_airports), (Value.slice a_y8_classes example_1.classes.length c_y8_classes), (Value.slice a_y8_rules example_1.rules.length c_y8_rules)]) (i := 0) ty31 hs237 rfl rfl rfl rfl ?_)
                 replace hm := bd hm; obtain ⟨step_3, hv241, hm⟩ := hm
                 refine Rg_opg rfl rfl rfl (op_call Try.call19 (c19_configs_Step (a := example_1) (from_ := 0) (to := 0) hs237.ltw f_y8_volumes f_y8_sectors f_y8_configs f_y8_segments f_y8_routes f_y8_airports f_y8_classes f_y8_rules (show InK .i64 0 from by decide) (show InK .i64 0 from by decide) hv241) rfl ?_)
                 rintro v242 w243 ⟨hx244, h245⟩
                 have hs246 := hs237.call hx244
                 have p247 := Step.ext (O := ks [(some b9, Obj.cells [(Value.slice a_y8_volumes example_1.volumes.length c_y8_volumes), (Value.slice a_y8_sectors example_1.sectors.length c_y8_sectors), (Value.slice a_y8_configs example_1.configs.length c_y8_configs), (Value.slice a_y8_segments example_1.segments.length c_y8_segments), (Value.slice a_y8_routes example_1.routes.length c_y8_routes), (Value.slice a_y8_airports example_1.airports.length c_y8_airports), (Value.slice a_y8_classes example_1.classes.length c_y8_classes), (Value.slice a_y8_rules example_1.rules.length c_y8_rules)].toArray 31)] O) hx244
                 clear hx244
                 replace f_y8_volumes := f_y8_volumes.step p247; replace f_y8_sectors := f_y8_sectors.step p247; replace f_y8_configs := f_y8_configs.step p247; replace f_y8_segments := f_y8_segments.step p247; replace f_y8_routes := f_y8_routes.step p247; replace f_y8_airports := f_y8_airports.step p247; replace f_y8_classes := f_y8_classes.step p247; replace f_y8_rules := f_y8_rules.step p247; replace f_y127 := f_y127.step p247; replace f190 := f190.step p247; replace ch177 := ch177.trans p247; clear p247 hs237
                 obtain rfl := h245
                 refine Rg_opg rfl rfl rfl (op_not rfl ?_)
                 refine Rg_op rfl (op_pick_t (v := (Value.bool (!step_3))) rfl rfl ?_)
                 refine Rg_op rfl (op_assign (v := (Value.bool (!step_3))) rfl ?_)
                 refine Rg_nil ?_
                 exact hK171 _ _ ⟨(!step_3), _, rfl, ⟨(by repeat (first | with_reducible exact Out.refl _ _ | refine Out.upd ?_ rfl | refine Out.updL ?_ rfl | refine Out.mix' ?_ rfl | exact Out.refl _ _)), rfl, rfl, trivial⟩, ch177, hs246, hm⟩
                ·
                 replace hm := bif_f hm hg240
                 iterate 3 refine Rg_opx rfl (asB_ne rfl rfl) rfl ?_
                 refine Rg_op rfl (op_pick_f (v := (Value.bool false)) rfl rfl ?_)
                 refine Rg_op rfl (op_assign (v := (Value.bool false)) rfl ?_)
                 refine Rg_nil ?_
                 exact hK171 _ _ ⟨false, _, rfl, ⟨(by repeat (first | with_reducible exact Out.refl _ _ | refine Out.upd ?_ rfl | refine Out.updL ?_ rfl | refine Out.mix' ?_ rfl | exact Out.refl _ _)), rfl, rfl, trivial⟩, ch177, hs237, hm⟩
               ·
                replace hm := bif_f hm hg231
                iterate 3 refine Rg_opx rfl (asB_ne rfl rfl) rfl ?_
                refine Rg_op rfl (op_pick_f (v := (Value.bool false)) rfl rfl ?_)
                refine Rg_op rfl (op_move (v := (Value.bool false)) rfl ?_)
                iterate 3 refine Rg_opx rfl (asB_ne rfl rfl) rfl ?_
                refine Rg_op rfl (op_pick_f (v := (Value.bool false)) rfl rfl ?_)
                refine Rg_op rfl (op_assign (v := (Value.bool false)) rfl ?_)
                refine Rg_nil ?_
                exact hK171 _ _ ⟨false, _, rfl, ⟨(by repeat (first | with_reducible exact Out.refl _ _ | refine Out.upd ?_ rfl | refine Out.updL ?_ rfl | refine Out.mix' ?_ rfl | exact Out.refl _ _)), rfl, rfl, trivial⟩, ch177, hs228, hm⟩
              ·
               replace hm := bif_f hm hg222
               iterate 2 refine Rg_opx rfl (asB_ne rfl rfl) rfl ?_
               refine Rg_op rfl (op_pick_f (v := (Value.bool false)) rfl rfl ?_)
               refine Rg_op rfl (op_move (v := (Value.bool false)) rfl ?_)
               iterate 3 refine Rg_opx rfl (asB_ne rfl rfl) rfl ?_
               refine Rg_op rfl (op_pick_f (v := (Value.bool false)) rfl rfl ?_)
               refine Rg_op rfl (op_move (v := (Value.bool false)) rfl ?_)
               iterate 3 refine Rg_opx rfl (asB_ne rfl rfl) rfl ?_
               refine Rg_op rfl (op_pick_f (v := (Value.bool false)) rfl rfl ?_)
               refine Rg_op rfl (op_assign (v := (Value.bool false)) rfl ?_)
               refine Rg_nil ?_
               exact hK171 _ _ ⟨false, _, rfl, ⟨(by repeat (first | with_reducible exact Out.refl _ _ | refine Out.upd ?_ rfl | refine Out.updL ?_ rfl | refine Out.mix' ?_ rfl | exact Out.refl _ _)), rfl, rfl, trivial⟩, ch177, hs219, hm⟩
             ·
              replace hm := bif_f hm hg213
              iterate 3 refine Rg_opx rfl (asB_ne rfl rfl) rfl ?_
              refine Rg_op rfl (op_pick_f (v := (Value.bool false)) rfl rfl ?_)
              refine Rg_op rfl (op_move (v := (Value.bool false)) rfl ?_)
              iterate 2 refine Rg_opx rfl (asB_ne rfl rfl) rfl ?_
              refine Rg_op rfl (op_pick_f (v := (Value.bool false)) rfl rfl ?_)
              refine Rg_op rfl (op_move (v := (Value.bool false)) rfl ?_)
              iterate 3 refine Rg_opx rfl (asB_ne rfl rfl) rfl ?_
              refine Rg_op rfl (op_pick_f (v := (Value.bool false)) rfl rfl ?_)
              refine Rg_op rfl (op_move (v := (Value.bool false)) rfl ?_)
              iterate 3 refine Rg_opx rfl (asB_ne rfl rfl) rfl ?_
              refine Rg_op rfl (op_pick_f (v := (Value.bool false)) rfl rfl ?_)
              refine Rg_op rfl (op_assign (v := (Value.bool false)) rfl ?_)
              refine Rg_nil ?_
              exact hK171 _ _ ⟨false, _, rfl, ⟨(by repeat (first | with_reducible exact Out.refl _ _ | refine Out.upd ?_ rfl | refine Out.updL ?_ rfl | refine Out.mix' ?_ rfl | exact Out.refl _ _)), rfl, rfl, trivial⟩, ch177, hs210, hm⟩
            ·
             replace hm := bif_f hm hg204
             iterate 3 refine Rg_opx rfl (asB_ne rfl rfl) rfl ?_
             refine Rg_op rfl (op_pick_f (v := (Value.bool false)) rfl rfl ?_)
             refine Rg_op rfl (op_move (v := (Value.bool false)) rfl ?_)
             iterate 3 refine Rg_opx rfl (asB_ne rfl rfl) rfl ?_
             refine Rg_op rfl (op_pick_f (v := (Value.bool false)) rfl rfl ?_)
             refine Rg_op rfl (op_move (v := (Value.bool false)) rfl ?_)
             iterate 2 refine Rg_opx rfl (asB_ne rfl rfl) rfl ?_
             refine Rg_op rfl (op_pick_f (v := (Value.bool false)) rfl rfl ?_)
             refine Rg_op rfl (op_move (v := (Value.bool false)) rfl ?_)
             iterate 3 refine Rg_opx rfl (asB_ne rfl rfl) rfl ?_
             refine Rg_op rfl (op_pick_f (v := (Value.bool false)) rfl rfl ?_)
             refine Rg_op rfl (op_move (v := (Value.bool false)) rfl ?_)
             iterate 3 refine Rg_opx rfl (asB_ne rfl rfl) rfl ?_
             refine Rg_op rfl (op_pick_f (v := (Value.bool false)) rfl rfl ?_)
             refine Rg_op rfl (op_assign (v := (Value.bool false)) rfl ?_)
             refine Rg_nil ?_
             exact hK171 _ _ ⟨false, _, rfl, ⟨(by repeat (first | with_reducible exact Out.refl _ _ | refine Out.upd ?_ rfl | refine Out.updL ?_ rfl | refine Out.mix' ?_ rfl | exact Out.refl _ _)), rfl, rfl, trivial⟩, ch177, hs198, hm⟩
           ·
            replace hm := bif_f hm hg203
            iterate 2 refine Rg_opx rfl (asB_ne rfl rfl) rfl ?_
            refine Rg_op rfl (op_pick_f (v := (Value.bool false)) rfl rfl ?_)
            refine Rg_op rfl (op_move (v := (Value.bool false)) rfl ?_)
            iterate 3 refine Rg_opx rfl (asB_ne rfl rfl) rfl ?_
            refine Rg_op rfl (op_pick_f (v := (Value.bool false)) rfl rfl ?_)
            refine Rg_op rfl (op_move (v := (Value.bool false)) rfl ?_)
            iterate 3 refine Rg_opx rfl (asB_ne rfl rfl) rfl ?_
            refine Rg_op rfl (op_pick_f (v := (Value.bool false)) rfl rfl ?_)
            refine Rg_op rfl (op_move (v := (Value.bool false)) rfl ?_)
            iterate 2 refine Rg_opx rfl (asB_ne rfl rfl) rfl ?_
            refine Rg_op rfl (op_pick_f (v := (Value.bool false)) rfl rfl ?_)
            refine Rg_op rfl (op_move (v := (Value.bool false)) rfl ?_)
            iterate 3 refine Rg_opx rfl (asB_ne rfl rfl) rfl ?_
            refine Rg_op rfl (op_pick_f (v := (Value.bool false)) rfl rfl ?_)
            refine Rg_op rfl (op_move (v := (Value.bool false)) rfl ?_)
            iterate 3 refine Rg_opx rfl (asB_ne rfl rfl) rfl ?_
            refine Rg_op rfl (op_pick_f (v := (Value.bool false)) rfl rfl ?_)
            refine Rg_op rfl (op_assign (v := (Value.bool false)) rfl ?_)
            refine Rg_nil ?_
            exact hK171 _ _ ⟨false, _, rfl, ⟨(by repeat (first | with_reducible exact Out.refl _ _ | refine Out.upd ?_ rfl | refine Out.updL ?_ rfl | refine Out.mix' ?_ rfl | exact Out.refl _ _)), rfl, rfl, trivial⟩, ch177, hs198, hm⟩
          ·
           replace hm := bif_f hm hg202
           iterate 2 refine Rg_opx rfl (asB_ne rfl rfl) rfl ?_
           refine Rg_op rfl (op_pick_f (v := (Value.bool false)) rfl rfl ?_)
           refine Rg_op rfl (op_move (v := (Value.bool false)) rfl ?_)
           iterate 2 refine Rg_opx rfl (asB_ne rfl rfl) rfl ?_
           refine Rg_op rfl (op_pick_f (v := (Value.bool false)) rfl rfl ?_)
           refine Rg_op rfl (op_move (v := (Value.bool false)) rfl ?_)
           iterate 3 refine Rg_opx rfl (asB_ne rfl rfl) rfl ?_
           refine Rg_op rfl (op_pick_f (v := (Value.bool false)) rfl rfl ?_)
           refine Rg_op rfl (op_move (v := (Value.bool false)) rfl ?_)
           iterate 3 refine Rg_opx rfl (asB_ne rfl rfl) rfl ?_
           refine Rg_op rfl (op_pick_f (v := (Value.bool false)) rfl rfl ?_)
           refine Rg_op rfl (op_move (v := (Value.bool false)) rfl ?_)
           iterate 2 refine Rg_opx rfl (asB_ne rfl rfl) rfl ?_
           refine Rg_op rfl (op_pick_f (v := (Value.bool false)) rfl rfl ?_)
           refine Rg_op rfl (op_move (v := (Value.bool false)) rfl ?_)
           iterate 3 refine Rg_opx rfl (asB_ne rfl rfl) rfl ?_
           refine Rg_op rfl (op_pick_f (v := (Value.bool false)) rfl rfl ?_)
           refine Rg_op rfl (op_move (v := (Value.bool false)) rfl ?_)
           iterate 3 refine Rg_opx rfl (asB_ne rfl rfl) rfl ?_
           refine Rg_op rfl (op_pick_f (v := (Value.bool false)) rfl rfl ?_)
           refine Rg_op rfl (op_assign (v := (Value.bool false)) rfl ?_)
           refine Rg_nil ?_
           exact hK171 _ _ ⟨false, _, rfl, ⟨(by repeat (first | with_reducible exact Out.refl _ _ | refine Out.upd ?_ rfl | refine Out.updL ?_ rfl | refine Out.mix' ?_ rfl | exact Out.refl _ _)), rfl, rfl, trivial⟩, ch177, hs198, hm⟩
         ·
          replace hm := bif_f hm hg201
          refine Rg_opx rfl (asB_ne rfl rfl) rfl ?_
          refine Rg_op rfl (op_pick_f (v := (Value.bool false)) rfl rfl ?_)
          refine Rg_op rfl (op_move (v := (Value.bool false)) rfl ?_)
          iterate 2 refine Rg_opx rfl (asB_ne rfl rfl) rfl ?_
          refine Rg_op rfl (op_pick_f (v := (Value.bool false)) rfl rfl ?_)
          refine Rg_op rfl (op_move (v := (Value.bool false)) rfl ?_)
          iterate 2 refine Rg_opx rfl (asB_ne rfl rfl) rfl ?_
          refine Rg_op rfl (op_pick_f (v := (Value.bool false)) rfl rfl ?_)
          refine Rg_op rfl (op_move (v := (Value.bool false)) rfl ?_)
          iterate 3 refine Rg_opx rfl (asB_ne rfl rfl) rfl ?_
          refine Rg_op rfl (op_pick_f (v := (Value.bool false)) rfl rfl ?_)
          refine Rg_op rfl (op_move (v := (Value.bool false)) rfl ?_)
          iterate 3 refine Rg_opx rfl (asB_ne rfl rfl) rfl ?_
          refine Rg_op rfl (op_pick_f (v := (Value.bool false)) rfl rfl ?_)
          refine Rg_op rfl (op_move (v := (Value.bool false)) rfl ?_)
          iterate 2 refine Rg_opx rfl (asB_ne rfl rfl) rfl ?_
          refine Rg_op rfl (op_pick_f (v := (Value.bool false)) rfl rfl ?_)
          refine Rg_op rfl (op_move (v := (Value.bool false)) rfl ?_)
          iterate 3 refine Rg_opx rfl (asB_ne rfl rfl) rfl ?_
          refine Rg_op rfl (op_pick_f (v := (Value.bool false)) rfl rfl ?_)
          refine Rg_op rfl (op_move (v := (Value.bool false)) rfl ?_)
          iterate 3 refine Rg_opx rfl (asB_ne rfl rfl) rfl ?_
          refine Rg_op rfl (op_pick_f (v := (Value.bool false)) rfl rfl ?_)
          refine Rg_op rfl (op_assign (v := (Value.bool false)) rfl ?_)
          refine Rg_nil ?_
          exact hK171 _ _ ⟨false, _, rfl, ⟨(by repeat (first | with_reducible exact Out.refl _ _ | refine Out.upd ?_ rfl | refine Out.updL ?_ rfl | refine Out.mix' ?_ rfl | exact Out.refl _ _)), rfl, rfl, trivial⟩, ch177, hs198, hm⟩
        ·
         replace hm := bif_f hm hg183
         iterate 3 refine Rg_opx rfl (asB_ne rfl rfl) rfl ?_
         refine Rg_op rfl (op_pick_f (v := (Value.bool false)) rfl rfl ?_)
         refine Rg_op rfl (op_move (v := (Value.bool false)) rfl ?_)
         refine Rg_opx rfl (asB_ne rfl rfl) rfl ?_
         refine Rg_op rfl (op_pick_f (v := (Value.bool false)) rfl rfl ?_)
         refine Rg_op rfl (op_move (v := (Value.bool false)) rfl ?_)
         iterate 2 refine Rg_opx rfl (asB_ne rfl rfl) rfl ?_
         refine Rg_op rfl (op_pick_f (v := (Value.bool false)) rfl rfl ?_)
         refine Rg_op rfl (op_move (v := (Value.bool false)) rfl ?_)
         iterate 2 refine Rg_opx rfl (asB_ne rfl rfl) rfl ?_
         refine Rg_op rfl (op_pick_f (v := (Value.bool false)) rfl rfl ?_)
         refine Rg_op rfl (op_move (v := (Value.bool false)) rfl ?_)
         iterate 3 refine Rg_opx rfl (asB_ne rfl rfl) rfl ?_
         refine Rg_op rfl (op_pick_f (v := (Value.bool false)) rfl rfl ?_)
         refine Rg_op rfl (op_move (v := (Value.bool false)) rfl ?_)
         iterate 3 refine Rg_opx rfl (asB_ne rfl rfl) rfl ?_
         refine Rg_op rfl (op_pick_f (v := (Value.bool false)) rfl rfl ?_)
         refine Rg_op rfl (op_move (v := (Value.bool false)) rfl ?_)
         iterate 2 refine Rg_opx rfl (asB_ne rfl rfl) rfl ?_
         refine Rg_op rfl (op_pick_f (v := (Value.bool false)) rfl rfl ?_)
         refine Rg_op rfl (op_move (v := (Value.bool false)) rfl ?_)
         iterate 3 refine Rg_opx rfl (asB_ne rfl rfl) rfl ?_
         refine Rg_op rfl (op_pick_f (v := (Value.bool false)) rfl rfl ?_)
         refine Rg_op rfl (op_move (v := (Value.bool false)) rfl ?_)
         iterate 3 refine Rg_opx rfl (asB_ne rfl rfl) rfl ?_
         refine Rg_op rfl (op_pick_f (v := (Value.bool false)) rfl rfl ?_)
         refine Rg_op rfl (op_assign (v := (Value.bool false)) rfl ?_)
         refine Rg_nil ?_
         exact hK171 _ _ ⟨false, _, rfl, ⟨(by repeat (first | with_reducible exact Out.refl _ _ | refine Out.upd ?_ rfl | refine Out.updL ?_ rfl | refine Out.mix' ?_ rfl | exact Out.refl _ _)), rfl, rfl, trivial⟩, ch177, hs163, hm⟩
       ·
        replace hm := bif_f hm hg182
        iterate 2 refine Rg_opx rfl (asB_ne rfl rfl) rfl ?_
        refine Rg_op rfl (op_pick_f (v := (Value.bool false)) rfl rfl ?_)
        refine Rg_op rfl (op_move (v := (Value.bool false)) rfl ?_)
        iterate 3 refine Rg_opx rfl (asB_ne rfl rfl) rfl ?_
        refine Rg_op rfl (op_pick_f (v := (Value.bool false)) rfl rfl ?_)
        refine Rg_op rfl (op_move (v := (Value.bool false)) rfl ?_)
        refine Rg_opx rfl (asB_ne rfl rfl) rfl ?_
        refine Rg_op rfl (op_pick_f (v := (Value.bool false)) rfl rfl ?_)
        refine Rg_op rfl (op_move (v := (Value.bool false)) rfl ?_)
        iterate 2 refine Rg_opx rfl (asB_ne rfl rfl) rfl ?_
        refine Rg_op rfl (op_pick_f (v := (Value.bool false)) rfl rfl ?_)
        refine Rg_op rfl (op_move (v := (Value.bool false)) rfl ?_)
        iterate 2 refine Rg_opx rfl (asB_ne rfl rfl) rfl ?_
        refine Rg_op rfl (op_pick_f (v := (Value.bool false)) rfl rfl ?_)
        refine Rg_op rfl (op_move (v := (Value.bool false)) rfl ?_)
        iterate 3 refine Rg_opx rfl (asB_ne rfl rfl) rfl ?_
        refine Rg_op rfl (op_pick_f (v := (Value.bool false)) rfl rfl ?_)
        refine Rg_op rfl (op_move (v := (Value.bool false)) rfl ?_)
        iterate 3 refine Rg_opx rfl (asB_ne rfl rfl) rfl ?_
        refine Rg_op rfl (op_pick_f (v := (Value.bool false)) rfl rfl ?_)
        refine Rg_op rfl (op_move (v := (Value.bool false)) rfl ?_)
        iterate 2 refine Rg_opx rfl (asB_ne rfl rfl) rfl ?_
        refine Rg_op rfl (op_pick_f (v := (Value.bool false)) rfl rfl ?_)
        refine Rg_op rfl (op_move (v := (Value.bool false)) rfl ?_)
        iterate 3 refine Rg_opx rfl (asB_ne rfl rfl) rfl ?_
        refine Rg_op rfl (op_pick_f (v := (Value.bool false)) rfl rfl ?_)
        refine Rg_op rfl (op_move (v := (Value.bool false)) rfl ?_)
        iterate 3 refine Rg_opx rfl (asB_ne rfl rfl) rfl ?_
        refine Rg_op rfl (op_pick_f (v := (Value.bool false)) rfl rfl ?_)
        refine Rg_op rfl (op_assign (v := (Value.bool false)) rfl ?_)
        refine Rg_nil ?_
        exact hK171 _ _ ⟨false, _, rfl, ⟨(by repeat (first | with_reducible exact Out.refl _ _ | refine Out.upd ?_ rfl | refine Out.updL ?_ rfl | refine Out.mix' ?_ rfl | exact Out.refl _ _)), rfl, rfl, trivial⟩, ch177, hs163, hm⟩
      ·
       replace hm := bif_f hm hg181
       iterate 2 refine Rg_opx rfl (asB_ne rfl rfl) rfl ?_
       refine Rg_op rfl (op_pick_f (v := (Value.bool false)) rfl rfl ?_)
       refine Rg_op rfl (op_move (v := (Value.bool false)) rfl ?_)
       iterate 2 refine Rg_opx rfl (asB_ne rfl rfl) rfl ?_
       refine Rg_op rfl (op_pick_f (v := (Value.bool false)) rfl rfl ?_)
       refine Rg_op rfl (op_move (v := (Value.bool false)) rfl ?_)
       iterate 3 refine Rg_opx rfl (asB_ne rfl rfl) rfl ?_
       refine Rg_op rfl (op_pick_f (v := (Value.bool false)) rfl rfl ?_)
       refine Rg_op rfl (op_move (v := (Value.bool false)) rfl ?_)
       refine Rg_opx rfl (asB_ne rfl rfl) rfl ?_
       refine Rg_op rfl (op_pick_f (v := (Value.bool false)) rfl rfl ?_)
       refine Rg_op rfl (op_move (v := (Value.bool false)) rfl ?_)
       iterate 2 refine Rg_opx rfl (asB_ne rfl rfl) rfl ?_
       refine Rg_op rfl (op_pick_f (v := (Value.bool false)) rfl rfl ?_)
       refine Rg_op rfl (op_move (v := (Value.bool false)) rfl ?_)
       iterate 2 refine Rg_opx rfl (asB_ne rfl rfl) rfl ?_
       refine Rg_op rfl (op_pick_f (v := (Value.bool false)) rfl rfl ?_)
       refine Rg_op rfl (op_move (v := (Value.bool false)) rfl ?_)
       iterate 3 refine Rg_opx rfl (asB_ne rfl rfl) rfl ?_
       refine Rg_op rfl (op_pick_f (v := (Value.bool false)) rfl rfl ?_)
       refine Rg_op rfl (op_move (v := (Value.bool false)) rfl ?_)
       iterate 3 refine Rg_opx rfl (asB_ne rfl rfl) rfl ?_
       refine Rg_op rfl (op_pick_f (v := (Value.bool false)) rfl rfl ?_)
       refine Rg_op rfl (op_move (v := (Value.bool false)) rfl ?_)
       iterate 2 refine Rg_opx rfl (asB_ne rfl rfl) rfl ?_
       refine Rg_op rfl (op_pick_f (v := (Value.bool false)) rfl rfl ?_)
       refine Rg_op rfl (op_move (v := (Value.bool false)) rfl ?_)
       iterate 3 refine Rg_opx rfl (asB_ne rfl rfl) rfl ?_
       refine Rg_op rfl (op_pick_f (v := (Value.bool false)) rfl rfl ?_)
       refine Rg_op rfl (op_move (v := (Value.bool false)) rfl ?_)
       iterate 3 refine Rg_opx rfl (asB_ne rfl rfl) rfl ?_
       refine Rg_op rfl (op_pick_f (v := (Value.bool false)) rfl rfl ?_)
       refine Rg_op rfl (op_assign (v := (Value.bool false)) rfl ?_)
       refine Rg_nil ?_
       exact hK171 _ _ ⟨false, _, rfl, ⟨(by repeat (first | with_reducible exact Out.refl _ _ | refine Out.upd ?_ rfl | refine Out.updL ?_ rfl | refine Out.mix' ?_ rfl | exact Out.refl _ _)), rfl, rfl, trivial⟩, ch177, hs163, hm⟩
     ·
      replace hm := bif_f hm hg180
      iterate 2 refine Rg_opx rfl (asB_ne rfl rfl) rfl ?_
      refine Rg_op rfl (op_pick_f (v := (Value.bool false)) rfl rfl ?_)
      refine Rg_op rfl (op_move (v := (Value.bool false)) rfl ?_)
      iterate 2 refine Rg_opx rfl (asB_ne rfl rfl) rfl ?_
      refine Rg_op rfl (op_pick_f (v := (Value.bool false)) rfl rfl ?_)
      refine Rg_op rfl (op_move (v := (Value.bool false)) rfl ?_)
      iterate 2 refine Rg_opx rfl (asB_ne rfl rfl) rfl ?_
      refine Rg_op rfl (op_pick_f (v := (Value.bool false)) rfl rfl ?_)
      refine Rg_op rfl (op_move (v := (Value.bool false)) rfl ?_)
      iterate 3 refine Rg_opx rfl (asB_ne rfl rfl) rfl ?_
      refine Rg_op rfl (op_pick_f (v := (Value.bool false)) rfl rfl ?_)
      refine Rg_op rfl (op_move (v := (Value.bool false)) rfl ?_)
      refine Rg_opx rfl (asB_ne rfl rfl) rfl ?_
      refine Rg_op rfl (op_pick_f (v := (Value.bool false)) rfl rfl ?_)
      refine Rg_op rfl (op_move (v := (Value.bool false)) rfl ?_)
      iterate 2 refine Rg_opx rfl (asB_ne rfl rfl) rfl ?_
      refine Rg_op rfl (op_pick_f (v := (Value.bool false)) rfl rfl ?_)
      refine Rg_op rfl (op_move (v := (Value.bool false)) rfl ?_)
      iterate 2 refine Rg_opx rfl (asB_ne rfl rfl) rfl ?_
      refine Rg_op rfl (op_pick_f (v := (Value.bool false)) rfl rfl ?_)
      refine Rg_op rfl (op_move (v := (Value.bool false)) rfl ?_)
      iterate 3 refine Rg_opx rfl (asB_ne rfl rfl) rfl ?_
      refine Rg_op rfl (op_pick_f (v := (Value.bool false)) rfl rfl ?_)
      refine Rg_op rfl (op_move (v := (Value.bool false)) rfl ?_)
      iterate 3 refine Rg_opx rfl (asB_ne rfl rfl) rfl ?_
      refine Rg_op rfl (op_pick_f (v := (Value.bool false)) rfl rfl ?_)
      refine Rg_op rfl (op_move (v := (Value.bool false)) rfl ?_)
      iterate 2 refine Rg_opx rfl (asB_ne rfl rfl) rfl ?_
      refine Rg_op rfl (op_pick_f (v := (Value.bool false)) rfl rfl ?_)
      refine Rg_op rfl (op_move (v := (Value.bool false)) rfl ?_)
      iterate 3 refine Rg_opx rfl (asB_ne rfl rfl) rfl ?_
      refine Rg_op rfl (op_pick_f (v := (Value.bool false)) rfl rfl ?_)
      refine Rg_op rfl (op_move (v := (Value.bool false)) rfl ?_)
      iterate 3 refine Rg_opx rfl (asB_ne rfl rfl) rfl ?_
      refine Rg_op rfl (op_pick_f (v := (Value.bool false)) rfl rfl ?_)
      refine Rg_op rfl (op_assign (v := (Value.bool false)) rfl ?_)
      refine Rg_nil ?_
      exact hK171 _ _ ⟨false, _, rfl, ⟨(by repeat (first | with_reducible exact Out.refl _ _ | refine Out.upd ?_ rfl | refine Out.updL ?_ rfl | refine Out.mix' ?_ rfl | exact Out.refl _ _)), rfl, rfl, trivial⟩, ch177, hs163, hm⟩
    ·
     replace hm := bif_f hm hg179
     refine Rg_opx rfl (asB_ne rfl rfl) rfl ?_
     refine Rg_op rfl (op_pick_f (v := (Value.bool false)) rfl rfl ?_)
     refine Rg_op rfl (op_move (v := (Value.bool false)) rfl ?_)
     iterate 2 refine Rg_opx rfl (asB_ne rfl rfl) rfl ?_
     refine Rg_op rfl (op_pick_f (v := (Value.bool false)) rfl rfl ?_)
     refine Rg_op rfl (op_move (v := (Value.bool false)) rfl ?_)
     iterate 2 refine Rg_opx rfl (asB_ne rfl rfl) rfl ?_
     refine Rg_op rfl (op_pick_f (v := (Value.bool false)) rfl rfl ?_)
     refine Rg_op rfl (op_move (v := (Value.bool false)) rfl ?_)
     iterate 2 refine Rg_opx rfl (asB_ne rfl rfl) rfl ?_
     refine Rg_op rfl (op_pick_f (v := (Value.bool false)) rfl rfl ?_)
     refine Rg_op rfl (op_move (v := (Value.bool false)) rfl ?_)
     iterate 3 refine Rg_opx rfl (asB_ne rfl rfl) rfl ?_
     refine Rg_op rfl (op_pick_f (v := (Value.bool false)) rfl rfl ?_)
     refine Rg_op rfl (op_move (v := (Value.bool false)) rfl ?_)
     refine Rg_opx rfl (asB_ne rfl rfl) rfl ?_
     refine Rg_op rfl (op_pick_f (v := (Value.bool false)) rfl rfl ?_)
     refine Rg_op rfl (op_move (v := (Value.bool false)) rfl ?_)
     iterate 2 refine Rg_opx rfl (asB_ne rfl rfl) rfl ?_
     refine Rg_op rfl (op_pick_f (v := (Value.bool false)) rfl rfl ?_)
     refine Rg_op rfl (op_move (v := (Value.bool false)) rfl ?_)
     iterate 2 refine Rg_opx rfl (asB_ne rfl rfl) rfl ?_
     refine Rg_op rfl (op_pick_f (v := (Value.bool false)) rfl rfl ?_)
     refine Rg_op rfl (op_move (v := (Value.bool false)) rfl ?_)
     iterate 3 refine Rg_opx rfl (asB_ne rfl rfl) rfl ?_
     refine Rg_op rfl (op_pick_f (v := (Value.bool false)) rfl rfl ?_)
     refine Rg_op rfl (op_move (v := (Value.bool false)) rfl ?_)
     iterate 3 refine Rg_opx rfl (asB_ne rfl rfl) rfl ?_
     refine Rg_op rfl (op_pick_f (v := (Value.bool false)) rfl rfl ?_)
     refine Rg_op rfl (op_move (v := (Value.bool false)) rfl ?_)
     iterate 2 refine Rg_opx rfl (asB_ne rfl rfl) rfl ?_
     refine Rg_op rfl (op_pick_f (v := (Value.bool false)) rfl rfl ?_)
     refine Rg_op rfl (op_move (v := (Value.bool false)) rfl ?_)
     iterate 3 refine Rg_opx rfl (asB_ne rfl rfl) rfl ?_
     refine Rg_op rfl (op_pick_f (v := (Value.bool false)) rfl rfl ?_)
     refine Rg_op rfl (op_move (v := (Value.bool false)) rfl ?_)
     iterate 3 refine Rg_opx rfl (asB_ne rfl rfl) rfl ?_
     refine Rg_op rfl (op_pick_f (v := (Value.bool false)) rfl rfl ?_)
     refine Rg_op rfl (op_assign (v := (Value.bool false)) rfl ?_)
     refine Rg_nil ?_
     exact hK171 _ _ ⟨false, _, rfl, ⟨(by repeat (first | with_reducible exact Out.refl _ _ | refine Out.upd ?_ rfl | refine Out.updL ?_ rfl | refine Out.mix' ?_ rfl | exact Out.refl _ _)), rfl, rfl, trivial⟩, ch177, hs163, hm⟩
   ·
    replace hm := bif_f hm hg178
    iterate 2 refine Rg_opx rfl (asB_ne rfl rfl) rfl ?_
    refine Rg_op rfl (op_pick_f (v := (Value.bool false)) rfl rfl ?_)
    refine Rg_op rfl (op_move (v := (Value.bool false)) rfl ?_)
    refine Rg_opx rfl (asB_ne rfl rfl) rfl ?_
    refine Rg_op rfl (op_pick_f (v := (Value.bool false)) rfl rfl ?_)
    refine Rg_op rfl (op_move (v := (Value.bool false)) rfl ?_)
    iterate 2 refine Rg_opx rfl (asB_ne rfl rfl) rfl ?_
    refine Rg_op rfl (op_pick_f (v := (Value.bool false)) rfl rfl ?_)
    refine Rg_op rfl (op_move (v := (Value.bool false)) rfl ?_)
    iterate 2 refine Rg_opx rfl (asB_ne rfl rfl) rfl ?_
    refine Rg_op rfl (op_pick_f (v := (Value.bool false)) rfl rfl ?_)
    refine Rg_op rfl (op_move (v := (Value.bool false)) rfl ?_)
    iterate 2 refine Rg_opx rfl (asB_ne rfl rfl) rfl ?_
    refine Rg_op rfl (op_pick_f (v := (Value.bool false)) rfl rfl ?_)
    refine Rg_op rfl (op_move (v := (Value.bool false)) rfl ?_)
    iterate 3 refine Rg_opx rfl (asB_ne rfl rfl) rfl ?_
    refine Rg_op rfl (op_pick_f (v := (Value.bool false)) rfl rfl ?_)
    refine Rg_op rfl (op_move (v := (Value.bool false)) rfl ?_)
    refine Rg_opx rfl (asB_ne rfl rfl) rfl ?_
    refine Rg_op rfl (op_pick_f (v := (Value.bool false)) rfl rfl ?_)
    refine Rg_op rfl (op_move (v := (Value.bool false)) rfl ?_)
    iterate 2 refine Rg_opx rfl (asB_ne rfl rfl) rfl ?_
    refine Rg_op rfl (op_pick_f (v := (Value.bool false)) rfl rfl ?_)
    refine Rg_op rfl (op_move (v := (Value.bool false)) rfl ?_)
    iterate 2 refine Rg_opx rfl (asB_ne rfl rfl) rfl ?_
    refine Rg_op rfl (op_pick_f (v := (Value.bool false)) rfl rfl ?_)
    refine Rg_op rfl (op_move (v := (Value.bool false)) rfl ?_)
    iterate 3 refine Rg_opx rfl (asB_ne rfl rfl) rfl ?_
    refine Rg_op rfl (op_pick_f (v := (Value.bool false)) rfl rfl ?_)
    refine Rg_op rfl (op_move (v := (Value.bool false)) rfl ?_)
    iterate 3 refine Rg_opx rfl (asB_ne rfl rfl) rfl ?_
    refine Rg_op rfl (op_pick_f (v := (Value.bool false)) rfl rfl ?_)
    refine Rg_op rfl (op_move (v := (Value.bool false)) rfl ?_)
    iterate 2 refine Rg_opx rfl (asB_ne rfl rfl) rfl ?_
    refine Rg_op rfl (op_pick_f (v := (Value.bool false)) rfl rfl ?_)
    refine Rg_op rfl (op_move (v := (Value.bool false)) rfl ?_)
    iterate 3 refine Rg_opx rfl (asB_ne rfl rfl) rfl ?_
    refine Rg_op rfl (op_pick_f (v := (Value.bool false)) rfl rfl ?_)
    refine Rg_op rfl (op_move (v := (Value.bool false)) rfl ?_)
    iterate 3 refine Rg_opx rfl (asB_ne rfl rfl) rfl ?_
    refine Rg_op rfl (op_pick_f (v := (Value.bool false)) rfl rfl ?_)
    refine Rg_op rfl (op_assign (v := (Value.bool false)) rfl ?_)
    refine Rg_nil ?_
    exact hK171 _ _ ⟨false, _, rfl, ⟨(by repeat (first | with_reducible exact Out.refl _ _ | refine Out.upd ?_ rfl | refine Out.updL ?_ rfl | refine Out.mix' ?_ rfl | exact Out.refl _ _)), rfl, rfl, trivial⟩, ch177, hs163, hm⟩
 ·
  intro K161 hK161
  have ch249 := Step.refl (ks [(some b9, Obj.cells [(Value.slice a_y8_volumes example_1.volumes.length c_y8_volumes), (Value.slice a_y8_sectors example_1.sectors.length c_y8_sectors), (Value.slice a_y8_configs example_1.configs.length c_y8_configs), (Value.slice a_y8_segments example_1.segments.length c_y8_segments), (Value.slice a_y8_routes example_1.routes.length c_y8_routes), (Value.slice a_y8_airports example_1.airports.length c_y8_airports), (Value.slice a_y8_classes example_1.classes.length c_y8_classes), (Value.slice a_y8_rules example_1.rules.length c_y8_rules)].toArray 31)] O) w146
  refine Wp_region ?_
  refine Rg_op rfl (op_move (v := (Value.int .i64 reach_1.2)) rfl ?_)
  refine Rg_op rfl (op_eql rfl rfl ?_)
  refine Rg_op rfl (op_move (v := (Value.bool (decide (reach_1.2 = 0)))) rfl ?_)
  refine Rg_case (fun hg250 => ?_) (fun hg250 => ?_)
  ·
   replace hm := bif_t hm hg250
   refine Rg_opg rfl rfl rfl (op_move (v := (Value.slice a_y28 reach_1.1.length c_y28)) rfl ?_)
   refine Rg_opg rfl rfl rfl (op_buildSlice (cs := [(Value.int .i64 0), (Value.int .i64 1), (Value.int .i64 2)]) (parts := [(0, .const (.int .i64 0)), (1, .const (.int .i64 1)), (2, .const (.int .i64 2))]) ty39 ty3 hs149 (by decide) rfl ?_)
   intro b251 w252 hx255 p253 hs254
   replace f_y8_volumes := f_y8_volumes.step p253; replace f_y8_sectors := f_y8_sectors.step p253; replace f_y8_configs := f_y8_configs.step p253; replace f_y8_segments := f_y8_segments.step p253; replace f_y8_routes := f_y8_routes.step p253; replace f_y8_airports := f_y8_airports.step p253; replace f_y8_classes := f_y8_classes.step p253; replace f_y8_rules := f_y8_rules.step p253; replace f_y28 := f_y28.step p253; replace f_y43 := f_y43.step p253; replace f_y59 := f_y59.step p253; replace f_y127 := f_y127.step p253; replace ch249 := ch249.trans p253; clear p253 hs149
   obtain ⟨hs258, p259, f257⟩ := St.publish (i := 0) (o := 0) (c := 3) (xs := [0, 1, 2]) hs254 rfl (show Els (rInt .i64) _ _ [(Value.int .i64 0), (Value.int .i64 1), (Value.int .i64 2)] [0, 1, 2] from ⟨_, _, rfl, (mk_int (show InK .i64 0 from by decide)), ⟨_, _, rfl, (mk_int (show InK .i64 1 from by decide)), ⟨_, _, rfl, (mk_int (show InK .i64 2 from by decide)), Els.nil⟩⟩⟩) (le_lit rfl) (le_lit rfl) (le_lit rfl)
   replace f_y8_volumes := f_y8_volumes.step p259; replace f_y8_sectors := f_y8_sectors.step p259; replace f_y8_configs := f_y8_configs.step p259; replace f_y8_segments := f_y8_segments.step p259; replace f_y8_routes := f_y8_routes.step p259; replace f_y8_airports := f_y8_airports.step p259; replace f_y8_classes := f_y8_classes.step p259; replace f_y8_rules := f_y8_rules.step p259; replace f_y28 := f_y28.step p259; replace f_y43 := f_y43.step p259; replace f_y59 := f_y59.step p259; replace f_y127 := f_y127.step p259; replace ch249 := ch249.trans p259; clear p259 hs254
   replace hm := bd hm; obtain ⟨sameints_2, hv260, hm⟩ := hm
   refine Rg_opg rfl rfl rfl (op_call Try.call21 (c21_overflightref10_SameInts (a := reach_1.1) (b := [0, 1, 2]) hs258.ltw f_y28 f257 hv260) rfl ?_)
   rintro v261 w262 ⟨hx263, h264⟩
   have hs265 := hs258.call hx263
   have p266 := Step.ext (O := ks [(some b9, Obj.cells [(Value.slice a_y8_volumes example_1.volumes.length c_y8_volumes), (Value.slice a_y8_sectors example_1.sectors.length c_y8_sectors), (Value.slice a_y8_configs example_1.configs.length c_y8_configs), (Value.slice a_y8_segments example_1.segments.length c_y8_segments), (Value.slice a_y8_routes example_1.routes.length c_y8_routes), (Value.slice a_y8_airports example_1.airports.length c_y8_airports), (Value.slice a_y8_classes example_1.classes.length c_y8_classes), (Value.slice a_y8_rules example_1.rules.length c_y8_rules)].toArray 31)] O) hx263
   clear hx263
   replace f_y8_volumes := f_y8_volumes.step p266; replace f_y8_sectors := f_y8_sectors.step p266; replace f_y8_configs := f_y8_configs.step p266; replace f_y8_segments := f_y8_segments.step p266; replace f_y8_routes := f_y8_routes.step p266; replace f_y8_airports := f_y8_airports.step p266; replace f_y8_classes := f_y8_classes.step p266; replace f_y8_rules := f_y8_rules.step p266; replace f_y28 := f_y28.step p266; replace f_y43 := f_y43.step p266; replace f_y59 := f_y59.step p266; replace f_y127 := f_y127.step p266; replace f257 := f257.step p266; replace ch249 := ch249.trans p266; clear p266 hs258
   obtain rfl := h264
   refine Rg_op rfl (op_pick_t (v := (Value.bool sameints_2)) rfl rfl ?_)
   refine Rg_op rfl (op_move (v := (Value.bool sameints_2)) rfl ?_)
   refine Rg_case (fun hg268 => ?_) (fun hg268 => ?_)
   ·
    replace hm := bif_t hm hg268
    refine Rg_opg rfl rfl rfl (op_move (v := (Value.int .i64 path_1.2.2)) rfl ?_)
    refine Rg_opg rfl rfl rfl (op_eql rfl rfl ?_)
    refine Rg_op rfl (op_pick_t (v := (Value.bool (decide (path_1.2.2 = 0)))) rfl rfl ?_)
    refine Rg_op rfl (op_move (v := (Value.bool (decide (path_1.2.2 = 0)))) rfl ?_)
    refine Rg_case (fun hg269 => ?_) (fun hg269 => ?_)
    ·
     replace hm := bif_t hm hg269
     refine Rg_opg rfl rfl rfl (op_move (v := (Value.bool path_1.2.1)) rfl ?_)
     refine Rg_op rfl (op_pick_t (v := (Value.bool path_1.2.1)) rfl rfl ?_)
     refine Rg_op rfl (op_move (v := (Value.bool path_1.2.1)) rfl ?_)
     refine Rg_case (fun hg270 => ?_) (fun hg270 => ?_)
     ·
      replace hm := bif_t hm hg270
      refine Rg_opg rfl rfl rfl (op_move (v := (Value.slice a_y43 path_1.1.length c_y43)) rfl ?_)
      refine Rg_opg rfl rfl rfl (op_buildSlice (cs := [(Value.int .i64 0), (Value.int .i64 2), (Value.int .i64 1)]) (parts := [(0, .const (.int .i64 0)), (1, .const (.int .i64 2)), (2, .const (.int .i64 1))]) ty39 ty3 hs265 (by decide) rfl ?_)
      intro b271 w272 hx275 p273 hs274
      replace f_y8_volumes := f_y8_volumes.step p273; replace f_y8_sectors := f_y8_sectors.step p273; replace f_y8_configs := f_y8_configs.step p273; replace f_y8_segments := f_y8_segments.step p273; replace f_y8_routes := f_y8_routes.step p273; replace f_y8_airports := f_y8_airports.step p273; replace f_y8_classes := f_y8_classes.step p273; replace f_y8_rules := f_y8_rules.step p273; replace f_y28 := f_y28.step p273; replace f_y43 := f_y43.step p273; replace f_y59 := f_y59.step p273; replace f_y127 := f_y127.step p273; replace f257 := f257.step p273; replace ch249 := ch249.trans p273; clear p273 hs265
      obtain ⟨hs278, p279, f277⟩ := St.publish (i := 0) (o := 0) (c := 3) (xs := [0, 2, 1]) hs274 rfl (show Els (rInt .i64) _ _ [(Value.int .i64 0), (Value.int .i64 2), (Value.int .i64 1)] [0, 2, 1] from ⟨_, _, rfl, (mk_int (show InK .i64 0 from by decide)), ⟨_, _, rfl, (mk_int (show InK .i64 2 from by decide)), ⟨_, _, rfl, (mk_int (show InK .i64 1 from by decide)), Els.nil⟩⟩⟩) (le_lit rfl) (le_lit rfl) (le_lit rfl)
      replace f_y8_volumes := f_y8_volumes.step p279; replace f_y8_sectors := f_y8_sectors.step p279; replace f_y8_configs := f_y8_configs.step p279; replace f_y8_segments := f_y8_segments.step p279; replace f_y8_routes := f_y8_routes.step p279; replace f_y8_airports := f_y8_airports.step p279; replace f_y8_classes := f_y8_classes.step p279; replace f_y8_rules := f_y8_rules.step p279; replace f_y28 := f_y28.step p279; replace f_y43 := f_y43.step p279; replace f_y59 := f_y59.step p279; replace f_y127 := f_y127.step p279; replace f257 := f257.step p279; replace ch249 := ch249.trans p279; clear p279 hs274
      replace hm := bd hm; obtain ⟨sameints_3, hv280, hm⟩ := hm
      refine Rg_opg rfl rfl rfl (op_call Try.call21 (c21_overflightref10_SameInts (a := path_1.1) (b := [0, 2, 1]) hs278.ltw f_y43 f277 hv280) rfl ?_)
      rintro v281 w282 ⟨hx283, h284⟩
      have hs285 := hs278.call hx283
      have p286 := Step.ext (O := ks [(some b9, Obj.cells [(Value.slice a_y8_volumes example_1.volumes.length c_y8_volumes), (Value.slice a_y8_sectors example_1.sectors.length c_y8_sectors), (Value.slice a_y8_configs example_1.configs.length c_y8_configs), (Value.slice a_y8_segments example_1.segments.length c_y8_segments), (Value.slice a_y8_routes example_1.routes.length c_y8_routes), (Value.slice a_y8_airports example_1.airports.length c_y8_airports), (Value.slice a_y8_classes example_1.classes.length c_y8_classes), (Value.slice a_y8_rules example_1.rules.length c_y8_rules)].toArray 31)] O) hx283
      clear hx283
      replace f_y8_volumes := f_y8_volumes.step p286; replace f_y8_sectors := f_y8_sectors.step p286; replace f_y8_configs := f_y8_configs.step p286; replace f_y8_segments := f_y8_segments.step p286; replace f_y8_routes := f_y8_routes.step p286; replace f_y8_airports := f_y8_airports.step p286; replace f_y8_classes := f_y8_classes.step p286; replace f_y8_rules := f_y8_rules.step p286; replace f_y28 := f_y28.step p286; replace f_y43 := f_y43.step p286; replace f_y59 := f_y59.step p286; replace f_y127 := f_y127.step p286; replace f257 := f257.step p286; replace f277 := f277.step p286; replace ch249 := ch249.trans p286; clear p286 hs278
      obtain rfl := h284
      refine Rg_op rfl (op_pick_t (v := (Value.bool sameints_3)) rfl rfl ?_)
      refine Rg_op rfl (op_move (v := (Value.bool sameints_3)) rfl ?_)
      refine Rg_case (fun hg288 => ?_) (fun hg288 => ?_)
      ·
       replace hm := bif_t hm hg288
       refine Rg_opg rfl rfl rfl (op_move (v := (Value.int .i64 path_2.2.2)) rfl ?_)
       refine Rg_opg rfl rfl rfl (op_eql rfl rfl ?_)
       refine Rg_op rfl (op_pick_t (v := (Value.bool (decide (path_2.2.2 = 0)))) rfl rfl ?_)
       refine Rg_op rfl (op_move (v := (Value.bool (decide (path_2.2.2 = 0)))) rfl ?_)
       refine Rg_case (fun hg289 => ?_) (fun hg289 => ?_)
       ·
        replace hm := bif_t hm hg289
        refine Rg_opg rfl rfl rfl (op_move (v := (Value.bool path_2.2.1)) rfl ?_)
        refine Rg_op rfl (op_pick_t (v := (Value.bool path_2.2.1)) rfl rfl ?_)
        refine Rg_op rfl (op_move (v := (Value.bool path_2.2.1)) rfl ?_)
        refine Rg_case (fun hg290 => ?_) (fun hg290 => ?_)
        ·
         replace hm := bif_t hm hg290
         refine Rg_opg rfl rfl rfl (op_move (v := (Value.slice a_y59 path_2.1.length c_y59)) rfl ?_)
         refine Rg_opg rfl rfl rfl (op_buildSlice (cs := [(Value.int .i64 1)]) (parts := [(0, .const (.int .i64 1))]) ty39 ty3 hs285 (by decide) rfl ?_)
         intro b291 w292 hx295 p293 hs294
         replace f_y8_volumes := f_y8_volumes.step p293; replace f_y8_sectors := f_y8_sectors.step p293; replace f_y8_configs := f_y8_configs.step p293; replace f_y8_segments := f_y8_segments.step p293; replace f_y8_routes := f_y8_routes.step p293; replace f_y8_airports := f_y8_airports.step p293; replace f_y8_classes := f_y8_classes.step p293; replace f_y8_rules := f_y8_rules.step p293; replace f_y28 := f_y28.step p293; replace f_y43 := f_y43.step p293; replace f_y59 := f_y59.step p293; replace f_y127 := f_y127.step p293; replace f257 := f257.step p293; replace f277 := f277.step p293; replace ch249 := ch249.trans p293; clear p293 hs285
         obtain ⟨hs298, p299, f297⟩ := St.publish (i := 0) (o := 0) (c := 1) (xs := [1]) hs294 rfl (show Els (rInt .i64) _ _ [(Value.int .i64 1)] [1] from ⟨_, _, rfl, (mk_int (show InK .i64 1 from by decide)), Els.nil⟩) (le_lit rfl) (le_lit rfl) (le_lit rfl)
         replace f_y8_volumes := f_y8_volumes.step p299; replace f_y8_sectors := f_y8_sectors.step p299; replace f_y8_configs := f_y8_configs.step p299; replace f_y8_segments := f_y8_segments.step p299; replace f_y8_routes := f_y8_routes.step p299; replace f_y8_airports := f_y8_airports.step p299; replace f_y8_classes := f_y8_classes.step p299; replace f_y8_rules := f_y8_rules.step p299; replace f_y28 := f_y28.step p299; replace f_y43 := f_y43.step p299; replace f_y59 := f_y59.step p299; replace f_y127 := f_y127.step p299; replace f257 := f257.step p299; replace f277 := f277.step p299; replace ch249 := ch249.trans p299; clear p299 hs294
         replace hm := bd hm; obtain ⟨sameints_4, hv300, hm⟩ := hm
         refine Rg_opg rfl rfl rfl (op_call Try.call21 (c21_overflightref10_SameInts (a := path_2.1) (b := [1]) hs298.ltw f_y59 f297 hv300) rfl ?_)
         rintro v301 w302 ⟨hx303, h304⟩
         have hs305 := hs298.call hx303
         have p306 := Step.ext (O := ks [(some b9, Obj.cells [(Value.slice a_y8_volumes example_1.volumes.length c_y8_volumes), (Value.slice a_y8_sectors example_1.sectors.length c_y8_sectors), (Value.slice a_y8_configs example_1.configs.length c_y8_configs), (Value.slice a_y8_segments example_1.segments.length c_y8_segments), (Value.slice a_y8_routes example_1.routes.length c_y8_routes), (Value.slice a_y8_airports example_1.airports.length c_y8_airports), (Value.slice a_y8_classes example_1.classes.length c_y8_classes), (Value.slice a_y8_rules example_1.rules.length c_y8_rules)].toArray 31)] O) hx303
         clear hx303
         replace f_y8_volumes := f_y8_volumes.step p306; replace f_y8_sectors := f_y8_sectors.step p306; replace f_y8_configs := f_y8_configs.step p306; replace f_y8_segments := f_y8_segments.step p306; replace f_y8_routes := f_y8_routes.step p306; replace f_y8_airports := f_y8_airports.step p306; replace f_y8_classes := f_y8_classes.step p306; replace f_y8_rules := f_y8_rules.step p306; replace f_y28 := f_y28.step p306; replace f_y43 := f_y43.step p306; replace f_y59 := f_y59.step p306; replace f_y127 := f_y127.step p306; replace f257 := f257.step p306; replace f277 := f277.step p306; replace f297 := f297.step p306; replace ch249 := ch249.trans p306; clear p306 hs298
         obtain rfl := h304
         refine Rg_op rfl (op_pick_t (v := (Value.bool sameints_4)) rfl rfl ?_)
         refine Rg_op rfl (op_move (v := (Value.bool sameints_4)) rfl ?_)
         refine Rg_case (fun hg308 => ?_) (fun hg308 => ?_)
         ·
          replace hm := bif_t hm hg308
          refine Rg_opg rfl rfl rfl (op_move (v := (Value.int .i64 stuck_1.2.2.2)) rfl ?_)
          refine Rg_opg rfl rfl rfl (op_eql rfl rfl ?_)
          refine Rg_op rfl (op_pick_t (v := (Value.bool (decide (stuck_1.2.2.2 = 0)))) rfl rfl ?_)
          refine Rg_op rfl (op_move (v := (Value.bool (decide (stuck_1.2.2.2 = 0)))) rfl ?_)
          refine Rg_case (fun hg309 => ?_) (fun hg309 => ?_)
          ·
           replace hm := bif_t hm hg309
           refine Rg_opg rfl rfl rfl (op_move (v := (Value.bool stuck_1.2.2.1)) rfl ?_)
           refine Rg_opg rfl rfl rfl (op_not rfl ?_)
           refine Rg_op rfl (op_pick_t (v := (Value.bool (!stuck_1.2.2.1))) rfl rfl ?_)
           refine Rg_op rfl (op_move (v := (Value.bool (!stuck_1.2.2.1))) rfl ?_)
           refine Rg_case (fun hg310 => ?_) (fun hg310 => ?_)
           ·
            replace hm := bif_t hm hg310
            refine Rg_opg rfl rfl rfl (op_move (v := (Value.int .i64 stuck_1.1)) rfl ?_)
            refine Rg_opg rfl rfl rfl (op_eql rfl rfl ?_)
            refine Rg_op rfl (op_pick_t (v := (Value.bool (decide (stuck_1.1 = 0)))) rfl rfl ?_)
            refine Rg_op rfl (op_move (v := (Value.bool (decide (stuck_1.1 = 0)))) rfl ?_)
            refine Rg_case (fun hg311 => ?_) (fun hg311 => ?_)
            ·
             replace hm := bif_t hm hg311
             refine Rg_opg rfl rfl rfl (op_move (v := (Value.int .i64 stuck_1.2.1)) rfl ?_)
             refine Rg_opg rfl rfl rfl (op_eql rfl rfl ?_)
             refine Rg_op rfl (op_pick_t (v := (Value.bool (decide (stuck_1.2.1 = 0)))) rfl rfl ?_)
             refine Rg_op rfl (op_assign (v := (Value.bool (decide (stuck_1.2.1 = 0)))) rfl ?_)
             refine Rg_nil ?_
             exact hK161 _ _ ⟨(decide (stuck_1.2.1 = 0)), _, rfl, ⟨(by repeat (first | with_reducible exact Out.refl _ _ | refine Out.upd ?_ rfl | refine Out.updL ?_ rfl | refine Out.mix' ?_ rfl | exact Out.refl _ _)), rfl, rfl, trivial⟩, ch249, hs305, hm⟩
            ·
             replace hm := bif_f hm hg311
             iterate 2 refine Rg_opx rfl (asB_ne rfl rfl) rfl ?_
             refine Rg_op rfl (op_pick_f (v := (Value.bool false)) rfl rfl ?_)
             refine Rg_op rfl (op_assign (v := (Value.bool false)) rfl ?_)
             refine Rg_nil ?_
             exact hK161 _ _ ⟨false, _, rfl, ⟨(by repeat (first | with_reducible exact Out.refl _ _ | refine Out.upd ?_ rfl | refine Out.updL ?_ rfl | refine Out.mix' ?_ rfl | exact Out.refl _ _)), rfl, rfl, trivial⟩, ch249, hs305, hm⟩
           ·
            replace hm := bif_f hm hg310
            iterate 2 refine Rg_opx rfl (asB_ne rfl rfl) rfl ?_
            refine Rg_op rfl (op_pick_f (v := (Value.bool false)) rfl rfl ?_)
            refine Rg_op rfl (op_move (v := (Value.bool false)) rfl ?_)
            iterate 2 refine Rg_opx rfl (asB_ne rfl rfl) rfl ?_
            refine Rg_op rfl (op_pick_f (v := (Value.bool false)) rfl rfl ?_)
            refine Rg_op rfl (op_assign (v := (Value.bool false)) rfl ?_)
            refine Rg_nil ?_
            exact hK161 _ _ ⟨false, _, rfl, ⟨(by repeat (first | with_reducible exact Out.refl _ _ | refine Out.upd ?_ rfl | refine Out.updL ?_ rfl | refine Out.mix' ?_ rfl | exact Out.refl _ _)), rfl, rfl, trivial⟩, ch249, hs305, hm⟩
          ·
           replace hm := bif_f hm hg309
           iterate 2 refine Rg_opx rfl (asB_ne rfl rfl) rfl ?_
           refine Rg_op rfl (op_pick_f (v := (Value.bool false)) rfl rfl ?_)
           refine Rg_op rfl (op_move (v := (Value.bool false)) rfl ?_)
           iterate 2 refine Rg_opx rfl (asB_ne rfl rfl) rfl ?_
           refine Rg_op rfl (op_pick_f (v := (Value.bool false)) rfl rfl ?_)
           refine Rg_op rfl (op_move (v := (Value.bool false)) rfl ?_)
           iterate 2 refine Rg_opx rfl (asB_ne rfl rfl) rfl ?_
           refine Rg_op rfl (op_pick_f (v := (Value.bool false)) rfl rfl ?_)
           refine Rg_op rfl (op_assign (v := (Value.bool false)) rfl ?_)
           refine Rg_nil ?_
           exact hK161 _ _ ⟨false, _, rfl, ⟨(by repeat (first | with_reducible exact Out.refl _ _ | refine Out.upd ?_ rfl | refine Out.updL ?_ rfl | refine Out.mix' ?_ rfl | exact Out.refl _ _)), rfl, rfl, trivial⟩, ch249, hs305, hm⟩
         ·
          replace hm := bif_f hm hg308
          iterate 2 refine Rg_opx rfl (asB_ne rfl rfl) rfl ?_
          refine Rg_op rfl (op_pick_f (v := (Value.bool false)) rfl rfl ?_)
          refine Rg_op rfl (op_move (v := (Value.bool false)) rfl ?_)
          iterate 2 refine Rg_opx rfl (asB_ne rfl rfl) rfl ?_
          refine Rg_op rfl (op_pick_f (v := (Value.bool false)) rfl rfl ?_)
          refine Rg_op rfl (op_move (v := (Value.bool false)) rfl ?_)
          iterate 2 refine Rg_opx rfl (asB_ne rfl rfl) rfl ?_
          refine Rg_op rfl (op_pick_f (v := (Value.bool false)) rfl rfl ?_)
          refine Rg_op rfl (op_move (v := (Value.bool false)) rfl ?_)
          iterate 2 refine Rg_opx rfl (asB_ne rfl rfl) rfl ?_
          refine Rg_op rfl (op_pick_f (v := (Value.bool false)) rfl rfl ?_)
          refine Rg_op rfl (op_assign (v := (Value.bool false)) rfl ?_)
          refine Rg_nil ?_
          exact hK161 _ _ ⟨false, _, rfl, ⟨(by repeat (first | with_reducible exact Out.refl _ _ | refine Out.upd ?_ rfl | refine Out.updL ?_ rfl | refine Out.mix' ?_ rfl | exact Out.refl _ _)), rfl, rfl, trivial⟩, ch249, hs305, hm⟩
        ·
         replace hm := bif_f hm hg290
         iterate 3 refine Rg_opx rfl (asB_ne rfl rfl) rfl ?_
         refine Rg_op rfl (op_pick_f (v := (Value.bool false)) rfl rfl ?_)
         refine Rg_op rfl (op_move (v := (Value.bool false)) rfl ?_)
         iterate 2 refine Rg_opx rfl (asB_ne rfl rfl) rfl ?_
         refine Rg_op rfl (op_pick_f (v := (Value.bool false)) rfl rfl ?_)
         refine Rg_op rfl (op_move (v := (Value.bool false)) rfl ?_)
         iterate 2 refine Rg_opx rfl (asB_ne rfl rfl) rfl ?_
         refine Rg_op rfl (op_pick_f (v := (Value.bool false)) rfl rfl ?_)
         refine Rg_op rfl (op_move (v := (Value.bool false)) rfl ?_)
         iterate 2 refine Rg_opx rfl (asB_ne rfl rfl) rfl ?_
         refine Rg_op rfl (op_pick_f (v := (Value.bool false)) rfl rfl ?_)
         refine Rg_op rfl (op_move (v := (Value.bool false)) rfl ?_)
         iterate 2 refine Rg_opx rfl (asB_ne rfl rfl) rfl ?_
         refine Rg_op rfl (op_pick_f (v := (Value.bool false)) rfl rfl ?_)
         refine Rg_op rfl (op_assign (v := (Value.bool false)) rfl ?_)
         refine Rg_nil ?_
         exact hK161 _ _ ⟨false, _, rfl, ⟨(by repeat (first | with_reducible exact Out.refl _ _ | refine Out.upd ?_ rfl | refine Out.updL ?_ rfl | refine Out.mix' ?_ rfl | exact Out.refl _ _)), rfl, rfl, trivial⟩, ch249, hs285, hm⟩
       ·
        replace hm := bif_f hm hg289
        refine Rg_opx rfl (asB_ne rfl rfl) rfl ?_
        refine Rg_op rfl (op_pick_f (v := (Value.bool false)) rfl rfl ?_)
        refine Rg_op rfl (op_move (v := (Value.bool false)) rfl ?_)
        iterate 3 refine Rg_opx rfl (asB_ne rfl rfl) rfl ?_
        refine Rg_op rfl (op_pick_f (v := (Value.bool false)) rfl rfl ?_)
        refine Rg_op rfl (op_move (v := (Value.bool false)) rfl ?_)
        iterate 2 refine Rg_opx rfl (asB_ne rfl rfl) rfl ?_
        refine Rg_op rfl (op_pick_f (v := (Value.bool false)) rfl rfl ?_)
        refine Rg_op rfl (op_move (v := (Value.bool false)) rfl ?_)
        iterate 2 refine Rg_opx rfl (asB_ne rfl rfl) rfl ?_
        refine Rg_op rfl (op_pick_f (v := (Value.bool false)) rfl rfl ?_)
        refine Rg_op rfl (op_move (v := (Value.bool false)) rfl ?_)
        iterate 2 refine Rg_opx rfl (asB_ne rfl rfl) rfl ?_
        refine Rg_op rfl (op_pick_f (v := (Value.bool false)) rfl rfl ?_)
        refine Rg_op rfl (op_move (v := (Value.bool false)) rfl ?_)
        iterate 2 refine Rg_opx rfl (asB_ne rfl rfl) rfl ?_
        refine Rg_op rfl (op_pick_f (v := (Value.bool false)) rfl rfl ?_)
        refine Rg_op rfl (op_assign (v := (Value.bool false)) rfl ?_)
        refine Rg_nil ?_
        exact hK161 _ _ ⟨false, _, rfl, ⟨(by repeat (first | with_reducible exact Out.refl _ _ | refine Out.upd ?_ rfl | refine Out.updL ?_ rfl | refine Out.mix' ?_ rfl | exact Out.refl _ _)), rfl, rfl, trivial⟩, ch249, hs285, hm⟩
      ·
       replace hm := bif_f hm hg288
       iterate 2 refine Rg_opx rfl (asB_ne rfl rfl) rfl ?_
       refine Rg_op rfl (op_pick_f (v := (Value.bool false)) rfl rfl ?_)
       refine Rg_op rfl (op_move (v := (Value.bool false)) rfl ?_)
       refine Rg_opx rfl (asB_ne rfl rfl) rfl ?_
       refine Rg_op rfl (op_pick_f (v := (Value.bool false)) rfl rfl ?_)
       refine Rg_op rfl (op_move (v := (Value.bool false)) rfl ?_)
       iterate 3 refine Rg_opx rfl (asB_ne rfl rfl) rfl ?_
       refine Rg_op rfl (op_pick_f (v := (Value.bool false)) rfl rfl ?_)
       refine Rg_op rfl (op_move (v := (Value.bool false)) rfl ?_)
       iterate 2 refine Rg_opx rfl (asB_ne rfl rfl) rfl ?_
       refine Rg_op rfl (op_pick_f (v := (Value.bool false)) rfl rfl ?_)
       refine Rg_op rfl (op_move (v := (Value.bool false)) rfl ?_)
       iterate 2 refine Rg_opx rfl (asB_ne rfl rfl) rfl ?_
       refine Rg_op rfl (op_pick_f (v := (Value.bool false)) rfl rfl ?_)
       refine Rg_op rfl (op_move (v := (Value.bool false)) rfl ?_)
       iterate 2 refine Rg_opx rfl (asB_ne rfl rfl) rfl ?_
       refine Rg_op rfl (op_pick_f (v := (Value.bool false)) rfl rfl ?_)
       refine Rg_op rfl (op_move (v := (Value.bool false)) rfl ?_)
       iterate 2 refine Rg_opx rfl (asB_ne rfl rfl) rfl ?_
       refine Rg_op rfl (op_pick_f (v := (Value.bool false)) rfl rfl ?_)
       refine Rg_op rfl (op_assign (v := (Value.bool false)) rfl ?_)
       refine Rg_nil ?_
       exact hK161 _ _ ⟨false, _, rfl, ⟨(by repeat (first | with_reducible exact Out.refl _ _ | refine Out.upd ?_ rfl | refine Out.updL ?_ rfl | refine Out.mix' ?_ rfl | exact Out.refl _ _)), rfl, rfl, trivial⟩, ch249, hs285, hm⟩
     ·
      replace hm := bif_f hm hg270
      iterate 3 refine Rg_opx rfl (asB_ne rfl rfl) rfl ?_
      refine Rg_op rfl (op_pick_f (v := (Value.bool false)) rfl rfl ?_)
      refine Rg_op rfl (op_move (v := (Value.bool false)) rfl ?_)
      iterate 2 refine Rg_opx rfl (asB_ne rfl rfl) rfl ?_
      refine Rg_op rfl (op_pick_f (v := (Value.bool false)) rfl rfl ?_)
      refine Rg_op rfl (op_move (v := (Value.bool false)) rfl ?_)
      refine Rg_opx rfl (asB_ne rfl rfl) rfl ?_
      refine Rg_op rfl (op_pick_f (v := (Value.bool false)) rfl rfl ?_)
      refine Rg_op rfl (op_move (v := (Value.bool false)) rfl ?_)
      iterate 3 refine Rg_opx rfl (asB_ne rfl rfl) rfl ?_
      refine Rg_op rfl (op_pick_f (v := (Value.bool false)) rfl rfl ?_)
      refine Rg_op rfl (op_move (v := (Value.bool false)) rfl ?_)
      iterate 2 refine Rg_opx rfl (asB_ne rfl rfl) rfl ?_
      refine Rg_op rfl (op_pick_f (v := (Value.bool false)) rfl rfl ?_)
      refine Rg_op rfl (op_move (v := (Value.bool false)) rfl ?_)
      iterate 2 refine Rg_opx rfl (asB_ne rfl rfl) rfl ?_
      refine Rg_op rfl (op_pick_f (v := (Value.bool false)) rfl rfl ?_)
      refine Rg_op rfl (op_move (v := (Value.bool false)) rfl ?_)
      iterate 2 refine Rg_opx rfl (asB_ne rfl rfl) rfl ?_
      refine Rg_op rfl (op_pick_f (v := (Value.bool false)) rfl rfl ?_)
      refine Rg_op rfl (op_move (v := (Value.bool false)) rfl ?_)
      iterate 2 refine Rg_opx rfl (asB_ne rfl rfl) rfl ?_
      refine Rg_op rfl (op_pick_f (v := (Value.bool false)) rfl rfl ?_)
      refine Rg_op rfl (op_assign (v := (Value.bool false)) rfl ?_)
      refine Rg_nil ?_
      exact hK161 _ _ ⟨false, _, rfl, ⟨(by repeat (first | with_reducible exact Out.refl _ _ | refine Out.upd ?_ rfl | refine Out.updL ?_ rfl | refine Out.mix' ?_ rfl | exact Out.refl _ _)), rfl, rfl, trivial⟩, ch249, hs265, hm⟩
    ·
     replace hm := bif_f hm hg269
     refine Rg_opx rfl (asB_ne rfl rfl) rfl ?_
     refine Rg_op rfl (op_pick_f (v := (Value.bool false)) rfl rfl ?_)
     refine Rg_op rfl (op_move (v := (Value.bool false)) rfl ?_)
     iterate 3 refine Rg_opx rfl (asB_ne rfl rfl) rfl ?_
     refine Rg_op rfl (op_pick_f (v := (Value.bool false)) rfl rfl ?_)
     refine Rg_op rfl (op_move (v := (Value.bool false)) rfl ?_)
     iterate 2 refine Rg_opx rfl (asB_ne rfl rfl) rfl ?_
     refine Rg_op rfl (op_pick_f (v := (Value.bool false)) rfl rfl ?_)
     refine Rg_op rfl (op_move (v := (Value.bool false)) rfl ?_)
     refine Rg_opx rfl (asB_ne rfl rfl) rfl ?_
     refine Rg_op rfl (op_pick_f (v := (Value.bool false)) rfl rfl ?_)
     refine Rg_op rfl (op_move (v := (Value.bool false)) rfl ?_)
     iterate 3 refine Rg_opx rfl (asB_ne rfl rfl) rfl ?_
     refine Rg_op rfl (op_pick_f (v := (Value.bool false)) rfl rfl ?_)
     refine Rg_op rfl (op_move (v := (Value.bool false)) rfl ?_)
     iterate 2 refine Rg_opx rfl (asB_ne rfl rfl) rfl ?_
     refine Rg_op rfl (op_pick_f (v := (Value.bool false)) rfl rfl ?_)
     refine Rg_op rfl (op_move (v := (Value.bool false)) rfl ?_)
     iterate 2 refine Rg_opx rfl (asB_ne rfl rfl) rfl ?_
     refine Rg_op rfl (op_pick_f (v := (Value.bool false)) rfl rfl ?_)
     refine Rg_op rfl (op_move (v := (Value.bool false)) rfl ?_)
     iterate 2 refine Rg_opx rfl (asB_ne rfl rfl) rfl ?_
     refine Rg_op rfl (op_pick_f (v := (Value.bool false)) rfl rfl ?_)
     refine Rg_op rfl (op_move (v := (Value.bool false)) rfl ?_)
     iterate 2 refine Rg_opx rfl (asB_ne rfl rfl) rfl ?_
     refine Rg_op rfl (op_pick_f (v := (Value.bool false)) rfl rfl ?_)
     refine Rg_op rfl (op_assign (v := (Value.bool false)) rfl ?_)
     refine Rg_nil ?_
     exact hK161 _ _ ⟨false, _, rfl, ⟨(by repeat (first | with_reducible exact Out.refl _ _ | refine Out.upd ?_ rfl | refine Out.updL ?_ rfl | refine Out.mix' ?_ rfl | exact Out.refl _ _)), rfl, rfl, trivial⟩, ch249, hs265, hm⟩
   ·
    replace hm := bif_f hm hg268
    iterate 2 refine Rg_opx rfl (asB_ne rfl rfl) rfl ?_
    refine Rg_op rfl (op_pick_f (v := (Value.bool false)) rfl rfl ?_)
    refine Rg_op rfl (op_move (v := (Value.bool false)) rfl ?_)
    refine Rg_opx rfl (asB_ne rfl rfl) rfl ?_
    refine Rg_op rfl (op_pick_f (v := (Value.bool false)) rfl rfl ?_)
    refine Rg_op rfl (op_move (v := (Value.bool false)) rfl ?_)
    iterate 3 refine Rg_opx rfl (asB_ne rfl rfl) rfl ?_
    refine Rg_op rfl (op_pick_f (v := (Value.bool false)) rfl rfl ?_)
    refine Rg_op rfl (op_move (v := (Value.bool false)) rfl ?_)
    iterate 2 refine Rg_opx rfl (asB_ne rfl rfl) rfl ?_
    refine Rg_op rfl (op_pick_f (v := (Value.bool false)) rfl rfl ?_)
    refine Rg_op rfl (op_move (v := (Value.bool false)) rfl ?_)
    refine Rg_opx rfl (asB_ne rfl rfl) rfl ?_
    refine Rg_op rfl (op_pick_f (v := (Value.bool false)) rfl rfl ?_)
    refine Rg_op rfl (op_move (v := (Value.bool false)) rfl ?_)
    iterate 3 refine Rg_opx rfl (asB_ne rfl rfl) rfl ?_
    refine Rg_op rfl (op_pick_f (v := (Value.bool false)) rfl rfl ?_)
    refine Rg_op rfl (op_move (v := (Value.bool false)) rfl ?_)
    iterate 2 refine Rg_opx rfl (asB_ne rfl rfl) rfl ?_
    refine Rg_op rfl (op_pick_f (v := (Value.bool false)) rfl rfl ?_)
    refine Rg_op rfl (op_move (v := (Value.bool false)) rfl ?_)
    iterate 2 refine Rg_opx rfl (asB_ne rfl rfl) rfl ?_
    refine Rg_op rfl (op_pick_f (v := (Value.bool false)) rfl rfl ?_)
    refine Rg_op rfl (op_move (v := (Value.bool false)) rfl ?_)
    iterate 2 refine Rg_opx rfl (asB_ne rfl rfl) rfl ?_
    refine Rg_op rfl (op_pick_f (v := (Value.bool false)) rfl rfl ?_)
    refine Rg_op rfl (op_move (v := (Value.bool false)) rfl ?_)
    iterate 2 refine Rg_opx rfl (asB_ne rfl rfl) rfl ?_
    refine Rg_op rfl (op_pick_f (v := (Value.bool false)) rfl rfl ?_)
    refine Rg_op rfl (op_assign (v := (Value.bool false)) rfl ?_)
    refine Rg_nil ?_
    exact hK161 _ _ ⟨false, _, rfl, ⟨(by repeat (first | with_reducible exact Out.refl _ _ | refine Out.upd ?_ rfl | refine Out.updL ?_ rfl | refine Out.mix' ?_ rfl | exact Out.refl _ _)), rfl, rfl, trivial⟩, ch249, hs265, hm⟩
  ·
   replace hm := bif_f hm hg250
   iterate 3 refine Rg_opx rfl (asB_ne rfl rfl) rfl ?_
   refine Rg_op rfl (op_pick_f (v := (Value.bool false)) rfl rfl ?_)
   refine Rg_op rfl (op_move (v := (Value.bool false)) rfl ?_)
   iterate 2 refine Rg_opx rfl (asB_ne rfl rfl) rfl ?_
   refine Rg_op rfl (op_pick_f (v := (Value.bool false)) rfl rfl ?_)
   refine Rg_op rfl (op_move (v := (Value.bool false)) rfl ?_)
   refine Rg_opx rfl (asB_ne rfl rfl) rfl ?_
   refine Rg_op rfl (op_pick_f (v := (Value.bool false)) rfl rfl ?_)
   refine Rg_op rfl (op_move (v := (Value.bool false)) rfl ?_)
   iterate 3 refine Rg_opx rfl (asB_ne rfl rfl) rfl ?_
   refine Rg_op rfl (op_pick_f (v := (Value.bool false)) rfl rfl ?_)
   refine Rg_op rfl (op_move (v := (Value.bool false)) rfl ?_)
   iterate 2 refine Rg_opx rfl (asB_ne rfl rfl) rfl ?_
   refine Rg_op rfl (op_pick_f (v := (Value.bool false)) rfl rfl ?_)
   refine Rg_op rfl (op_move (v := (Value.bool false)) rfl ?_)
   refine Rg_opx rfl (asB_ne rfl rfl) rfl ?_
   refine Rg_op rfl (op_pick_f (v := (Value.bool false)) rfl rfl ?_)
   refine Rg_op rfl (op_move (v := (Value.bool false)) rfl ?_)
   iterate 3 refine Rg_opx rfl (asB_ne rfl rfl) rfl ?_
   refine Rg_op rfl (op_pick_f (v := (Value.bool false)) rfl rfl ?_)
   refine Rg_op rfl (op_move (v := (Value.bool false)) rfl ?_)
   iterate 2 refine Rg_opx rfl (asB_ne rfl rfl) rfl ?_
   refine Rg_op rfl (op_pick_f (v := (Value.bool false)) rfl rfl ?_)
   refine Rg_op rfl (op_move (v := (Value.bool false)) rfl ?_)
   iterate 2 refine Rg_opx rfl (asB_ne rfl rfl) rfl ?_
   refine Rg_op rfl (op_pick_f (v := (Value.bool false)) rfl rfl ?_)
   refine Rg_op rfl (op_move (v := (Value.bool false)) rfl ?_)
   iterate 2 refine Rg_opx rfl (asB_ne rfl rfl) rfl ?_
   refine Rg_op rfl (op_pick_f (v := (Value.bool false)) rfl rfl ?_)
   refine Rg_op rfl (op_move (v := (Value.bool false)) rfl ?_)
   iterate 2 refine Rg_opx rfl (asB_ne rfl rfl) rfl ?_
   refine Rg_op rfl (op_pick_f (v := (Value.bool false)) rfl rfl ?_)
   refine Rg_op rfl (op_assign (v := (Value.bool false)) rfl ?_)
   refine Rg_nil ?_
   exact hK161 _ _ ⟨false, _, rfl, ⟨(by repeat (first | with_reducible exact Out.refl _ _ | refine Out.upd ?_ rfl | refine Out.updL ?_ rfl | refine Out.mix' ?_ rfl | exact Out.refl _ _)), rfl, rfl, trivial⟩, ch249, hs149, hm⟩

end Go.Fx



set_option linter.unusedVariables false
set_option linter.unusedSimpArgs false
set_option maxRecDepth 100000
set_option maxHeartbeats 0
namespace Go.Fx
open Go Go.RowKit Go.Proofs
def m12_overflightref10_Few_B1 (a : XAirspace) (sf29 : Int → Option Bool) (i_2 : Int) : Option Bool :=
 bif (decide (i_2 < (a.configs.length : Int))) then
  ck ((0 : Int) ≤ i_2 ∧ i_2 < (a.configs.length : Int)) <|
  bif (decide (10 < (((a.configs.getD i_2.toNat default).sectors).length : Int))) then
   some false
  else
   sf29 (IntKind.wrap .i64 (i_2 + 1))
 else
  bif (decide ((a.volumes.length : Int) ≤ 6)) then
   bif (decide ((a.sectors.length : Int) ≤ 12)) then
    some (decide ((a.configs.length : Int) ≤ 7))
   else
    some false
  else
   some false

def m12_overflightref10_Few_B0 (a : XAirspace) (sf8 : Int → Option Bool) (i_1 : Int) : Option Bool :=
 bif (decide (i_1 < (a.sectors.length : Int))) then
  ck ((0 : Int) ≤ i_1 ∧ i_1 < (a.sectors.length : Int)) <|
  bif (decide (10 < (((a.sectors.getD i_1.toNat default).volumes).length : Int))) then
   some false
  else
   sf8 (IntKind.wrap .i64 (i_1 + 1))
 else
  loop1 (m12_overflightref10_Few_B1 a) (((a.configs.length : Int) - 0).toNat + 1) 0

def m12_overflightref10_Few (a : XAirspace) : Option Bool :=
 loop1 (m12_overflightref10_Few_B0 a) (((a.sectors.length : Int) - 0).toNat + 1) 0

theorem c12_overflightref10_Few {w : World} {O : List Nat} {a : XAirspace} {a_a_volumes : Option Addr} {c_a_volumes : Nat} {a_a_sectors : Option Addr} {c_a_sectors : Nat} {a_a_configs : Option Addr} {c_a_configs : Nat} {a_a_segments : Option Addr} {c_a_segments : Nat} {a_a_routes : Option Addr} {c_a_routes : Nat} {a_a_airports : Option Addr} {c_a_airports : Nat} {a_a_classes : Option Addr} {c_a_classes : Nat} {a_a_rules : Option Addr} {c_a_rules : Nat} (hO : ∀ k ∈ O, k < w.heap.size) (f_a_volumes : SlR rXVolume w O a_a_volumes c_a_volumes a.volumes) (f_a_sectors : SlR rXSector w O a_a_sectors c_a_sectors a.sectors) (f_a_configs : SlR rXConfig w O a_a_configs c_a_configs a.configs) (f_a_segments : SlR rXSegment w O a_a_segments c_a_segments a.segments) (f_a_routes : SlR rXRoute w O a_a_routes c_a_routes a.routes) (f_a_airports : SlR rXAirport w O a_a_airports c_a_airports a.airports) (f_a_classes : SlR rXClass w O a_a_classes c_a_classes a.classes) (f_a_rules : SlR rXRule w O a_a_rules c_a_rules a.rules) {x : Bool} (hm : m12_overflightref10_Few a = some x) :
  Ok Try.prog 12 [(Value.agg [(Value.slice a_a_volumes a.volumes.length c_a_volumes), (Value.slice a_a_sectors a.sectors.length c_a_sectors), (Value.slice a_a_configs a.configs.length c_a_configs), (Value.slice a_a_segments a.segments.length c_a_segments), (Value.slice a_a_routes a.routes.length c_a_routes), (Value.slice a_a_airports a.airports.length c_a_airports), (Value.slice a_a_classes a.classes.length c_a_classes), (Value.slice a_a_rules a.rules.length c_a_rules)].toArray)] w O vB x := by
 unfold m12_overflightref10_Few at hm
 refine Fn_of_Wp (n := 51) (xs := [.tmp 2]) Try.func12 rfl Try.ntmps12 Try.results12 rfl ?_
 have hs := St.start hO
 refine Wp_seq ?_
 refine Wp_region ?_
 refine Rg_op rfl (op_box (cs := [(Value.slice a_a_volumes a.volumes.length c_a_volumes), (Value.slice a_a_sectors a.sectors.length c_a_sectors), (Value.slice a_a_configs a.configs.length c_a_configs), (Value.slice a_a_segments a.segments.length c_a_segments), (Value.slice a_a_routes a.routes.length c_a_routes), (Value.slice a_a_airports a.airports.length c_a_airports), (Value.slice a_a_classes a.classes.length c_a_classes), (Value.slice a_a_rules a.rules.length c_a_rules)]) hs rfl rfl ?_)
 intro b1 w2 _ p3 hs4
 replace f_a_volumes := f_a_volumes.step p3; replace f_a_sectors := f_a_sectors.step p3; replace f_a_configs := f_a_configs.step p3; replace f_a_segments := f_a_segments.step p3; replace f_a_routes := f_a_routes.step p3; replace f_a_airports := f_a_airports.step p3; replace f_a_classes := f_a_classes.step p3; replace f_a_rules := f_a_rules.step p3; clear p3
 refine Rg_op rfl (op_assign (v := (Value.bool false)) rfl ?_)
 refine Rg_nil ?_
 refine Wp_seq ?_
 refine Wp_seq ?_
 refine Wp_region ?_
 refine Rg_op rfl (op_assign (v := (Value.int .i64 0)) rfl ?_)
 refine Rg_nil ?_
 refine Wp_block ?_
 refine Wp_reset [] [(1, (Value.pointer (some ⟨b1, 0, none⟩))), (3, (Value.int .i64 0))] rfl ⟨rfl, rfl, trivial⟩ fun ξ7 => ?_
 refine Wp_loopM [2, 3, 5, 6, 7, 8, 9, 10, 11, 12, 13, 14, 15, 16, 17, 18, 19] (fun m fr w' => ∃ (i_1 : Int) (Ebs : Ents), Ebs = [(some b1, Obj.cells [(Value.slice a_a_volumes a.volumes.length c_a_volumes), (Value.slice a_a_sectors a.sectors.length c_a_sectors), (Value.slice a_a_configs a.configs.length c_a_configs), (Value.slice a_a_segments a.segments.length c_a_segments), (Value.slice a_a_routes a.routes.length c_a_routes), (Value.slice a_a_airports a.airports.length c_a_airports), (Value.slice a_a_classes a.classes.length c_a_classes), (Value.slice a_a_rules a.rules.length c_a_rules)].toArray 31)] ∧ fr [] [(3, (Value.int .i64 i_1))] ∧ Step (ks [(some b1, Obj.cells [(Value.slice a_a_volumes a.volumes.length c_a_volumes), (Value.slice a_a_sectors a.sectors.length c_a_sectors), (Value.slice a_a_configs a.configs.length c_a_configs), (Value.slice a_a_segments a.segments.length c_a_segments), (Value.slice a_a_routes a.routes.length c_a_routes), (Value.slice a_a_airports a.airports.length c_a_airports), (Value.slice a_a_classes a.classes.length c_a_classes), (Value.slice a_a_rules a.rules.length c_a_rules)].toArray 31)] O) w2 (ks Ebs O) w' ∧ St ⟨w, [], []⟩ O w' Ebs ∧ InK .i64 i_1 ∧ loop1 (m12_overflightref10_Few_B0 a) m i_1 = some x) (((a.sectors.length : Int) - 0).toNat + 1) ⟨0, _, rfl, ⟨Out.refl _ _, rfl, rfl, trivial⟩, Step.refl _ _, hs4, (show InK .i64 0 from by decide), hm⟩ ?_ ?_
 · rintro _ _ ⟨_, _, _, _, _, _, _, hm⟩; exact loop1_z hm
 ·
  rintro m11 K10 hK10 ρ16 w12 ⟨i_1, Ebs, hEbs, hfr15, hst14, hs13, r_y6, hm⟩
  obtain ⟨sf8, hsf9, hm⟩ := loop1_s hm; unfold m12_overflightref10_Few_B0 at hm
  subst hEbs; rw [hfr15.eq]; clear hfr15
  replace f_a_volumes := f_a_volumes.step hst14; replace f_a_sectors := f_a_sectors.step hst14; replace f_a_configs := f_a_configs.step hst14; replace f_a_segments := f_a_segments.step hst14; replace f_a_routes := f_a_routes.step hst14; replace f_a_airports := f_a_airports.step hst14; replace f_a_classes := f_a_classes.step hst14; replace f_a_rules := f_a_rules.step hst14
  have ch17 := hst14
  refine Wp_seq ?_
  refine Wp_seq ?_
  refine Wp_region ?_
  refine Rg_op rfl (op_move (v := (Value.int .i64 i_1)) rfl ?_)
  refine Rg_op rfl (op_fieldAddr ty31 rfl ty23 (by decide) rfl (rfl : _ = (⟨_, 1, none⟩ : Addr)) ?_)
  refine Rg_op rfl (op_load (cs := [(Value.slice a_a_volumes a.volumes.length c_a_volumes), (Value.slice a_a_sectors a.sectors.length c_a_sectors), (Value.slice a_a_configs a.configs.length c_a_configs), (Value.slice a_a_segments a.segments.length c_a_segments), (Value.slice a_a_routes a.routes.length c_a_routes), (Value.slice a_a_airports a.airports.length c_a_airports), (Value.slice a_a_classes a.classes.length c_a_classes), (Value.slice a_a_rules a.rules.length c_a_rules)]) (i := 0) ty23 hs13 rfl rfl rfl ?_)
  refine Rg_op rfl (op_len Try.underlying23 rfl ?_)
  refine Rg_op rfl (op_lss rfl rfl ?_)
  refine Rg_nil ?_
  refine Wp_cond rfl (fun hc18 => ?_) (fun hc18 => ?_)
  ·
   replace hm := bif_t hm hc18
   refine Wp_skip ?_
   refine Wp_seq ?_
   refine Wp_block ?_
   refine Wp_seq ?_
   refine Wp_region ?_
   refine Rg_op rfl (op_fieldAddr ty31 rfl ty23 (by decide) rfl (rfl : _ = (⟨_, 1, none⟩ : Addr)) ?_)
   refine Rg_op rfl (op_load (cs := [(Value.slice a_a_volumes a.volumes.length c_a_volumes), (Value.slice a_a_sectors a.sectors.length c_a_sectors), (Value.slice a_a_configs a.configs.length c_a_configs), (Value.slice a_a_segments a.segments.length c_a_segments), (Value.slice a_a_routes a.routes.length c_a_routes), (Value.slice a_a_airports a.airports.length c_a_airports), (Value.slice a_a_classes a.classes.length c_a_classes), (Value.slice a_a_rules a.rules.length c_a_rules)]) (i := 0) ty23 hs13 rfl rfl rfl ?_)
   refine Rg_op rfl (op_move (v := (Value.int .i64 i_1)) rfl ?_)
   replace hm := ck_some hm; obtain ⟨hc19, hm⟩ := hm
   refine Rg_op rfl (op_indexAddr (q := rXSector) ty23 ty50 rfl rfl f_a_sectors rfl hc19.1 hc19.2 ?_)
   intro p20 f21
   refine Rg_op rfl (op_fieldAddr ty50 rfl ty39 (by decide) rfl rfl ?_)
   have f22 := f21.via.snd.snd.fst
   refine Rg_op rfl (op_loadP ty39 rfl f22 rfl ?_)
   intro v23 h24
   obtain ⟨a_y25, c_y25, rfl, f_y25⟩ := un_sl h24
   refine Rg_op rfl (op_len Try.underlying39 rfl ?_)
   refine Rg_op rfl (op_gtr rfl rfl ?_)
   refine Rg_nil ?_
   refine Wp_cond rfl (fun hc26 => ?_) (fun hc26 => ?_)
   ·
    replace hm := bif_t hm hc26
    refine Wp_seq ?_
    clear f21 f22 f_y25
    refine Wp_region ?_
    refine Rg_op rfl (op_assign (v := (Value.bool false)) rfl ?_)
    refine Rg_nil ?_
    refine Wp_ret ?_
    have hz := step_all hs13
    replace f_a_volumes := f_a_volumes.step hz; replace f_a_sectors := f_a_sectors.step hz; replace f_a_configs := f_a_configs.step hz; replace f_a_segments := f_a_segments.step hz; replace f_a_routes := f_a_routes.step hz; replace f_a_airports := f_a_airports.step hz; replace f_a_classes := f_a_classes.step hz; replace f_a_rules := f_a_rules.step hz
    refine ⟨_, (show Closes [] _ _ from rfl), [(Value.bool false)], ⟨rfl, trivial⟩, hs13.ext, ?_⟩
    exact Vr.eq (a := vB) (x := false) rfl (Option.some.inj hm)
   ·
    replace hm := bif_f hm hc26
    refine Wp_skip ?_
    clear f21 f22 f_y25
    refine Wp_region ?_
    refine Rg_op rfl (op_move (v := (Value.int .i64 i_1)) rfl ?_)
    refine Rg_op rfl (op_addw rfl rfl ?_)
    refine Rg_op rfl (op_assign (v := (Value.int .i64 (IntKind.wrap .i64 (i_1 + 1)))) rfl ?_)
    refine Rg_nil ?_
    exact hK10 _ _ ⟨(IntKind.wrap .i64 (i_1 + 1)), _, rfl, ⟨(by repeat (first | with_reducible exact Out.refl _ _ | refine Out.upd ?_ rfl | refine Out.updL ?_ rfl | refine Out.mix' ?_ rfl | exact Out.refl _ _)), rfl, rfl, trivial⟩, ch17, hs13, (inK_wrap .i64 _), jnE1 hsf9 hm⟩
  ·
   replace hm := bif_f hm hc18
   refine Wp_exit ?_
   refine Wp_seq ?_
   refine Wp_seq ?_
   refine Wp_region ?_
   refine Rg_op rfl (op_assign (v := (Value.int .i64 0)) rfl ?_)
   refine Rg_nil ?_
   refine Wp_block ?_
   refine Wp_reset [] [(1, (Value.pointer (some ⟨b1, 0, none⟩))), (4, (Value.int .i64 0))] rfl ⟨rfl, rfl, trivial⟩ fun ξ28 => ?_
   refine Wp_loopM [2, 4, 20, 21, 22, 23, 24, 25, 26, 27, 28, 29, 30, 31, 32, 33, 34] (fun m fr w' => ∃ (i_2 : Int) (Ebs : Ents), Ebs = [(some b1, Obj.cells [(Value.slice a_a_volumes a.volumes.length c_a_volumes), (Value.slice a_a_sectors a.sectors.length c_a_sectors), (Value.slice a_a_configs a.configs.length c_a_configs), (Value.slice a_a_segments a.segments.length c_a_segments), (Value.slice a_a_routes a.routes.length c_a_routes), (Value.slice a_a_airports a.airports.length c_a_airports), (Value.slice a_a_classes a.classes.length c_a_classes), (Value.slice a_a_rules a.rules.length c_a_rules)].toArray 31)] ∧ fr [] [(4, (Value.int .i64 i_2))] ∧ Step (ks [(some b1, Obj.cells [(Value.slice a_a_volumes a.volumes.length c_a_volumes), (Value.slice a_a_sectors a.sectors.length c_a_sectors), (Value.slice a_a_configs a.configs.length c_a_configs), (Value.slice a_a_segments a.segments.length c_a_segments), (Value.slice a_a_routes a.routes.length c_a_routes), (Value.slice a_a_airports a.airports.length c_a_airports), (Value.slice a_a_classes a.classes.length c_a_classes), (Value.slice a_a_rules a.rules.length c_a_rules)].toArray 31)] O) w12 (ks Ebs O) w' ∧ St ⟨w, [], []⟩ O w' Ebs ∧ InK .i64 i_2 ∧ loop1 (m12_overflightref10_Few_B1 a) m i_2 = some x) (((a.configs.length : Int) - 0).toNat + 1) ⟨0, _, rfl, ⟨Out.refl _ _, rfl, rfl, trivial⟩, Step.refl _ _, hs13, (show InK .i64 0 from by decide), hm⟩ ?_ ?_
   · rintro _ _ ⟨_, _, _, _, _, _, _, hm⟩; exact loop1_z hm
   ·
    rintro m32 K31 hK31 ρ37 w33 ⟨i_2, Ebs, hEbs, hfr36, hst35, hs34, r_y27, hm⟩
    obtain ⟨sf29, hsf30, hm⟩ := loop1_s hm; unfold m12_overflightref10_Few_B1 at hm
    subst hEbs; rw [hfr36.eq]; clear hfr36
    replace f_a_volumes := f_a_volumes.step hst35; replace f_a_sectors := f_a_sectors.step hst35; replace f_a_configs := f_a_configs.step hst35; replace f_a_segments := f_a_segments.step hst35; replace f_a_routes := f_a_routes.step hst35; replace f_a_airports := f_a_airports.step hst35; replace f_a_classes := f_a_classes.step hst35; replace f_a_rules := f_a_rules.step hst35; replace ch17 := ch17.trans hst35
    have ch38 := hst35
    refine Wp_seq ?_
    refine Wp_seq ?_
    refine Wp_region ?_
    refine Rg_op rfl (op_move (v := (Value.int .i64 i_2)) rfl ?_)
    refine Rg_op rfl (op_fieldAddr ty31 rfl ty24 (by decide) rfl (rfl : _ = (⟨_, 2, none⟩ : Addr)) ?_)
    refine Rg_op rfl (op_load (cs := [(Value.slice a_a_volumes a.volumes.length c_a_volumes), (Value.slice a_a_sectors a.sectors.length c_a_sectors), (Value.slice a_a_configs a.configs.length c_a_configs), (Value.slice a_a_segments a.segments.length c_a_segments), (Value.slice a_a_routes a.routes.length c_a_routes), (Value.slice a_a_airports a.airports.length c_a_airports), (Value.slice a_a_classes a.classes.length c_a_classes), (Value.slice a_a_rules a.rules.length c_a_rules)]) (i := 0) ty24 hs34 rfl rfl rfl ?_)
    refine Rg_op rfl (op_len Try.underlying24 rfl ?_)
    refine Rg_op rfl (op_lss rfl rfl ?_)
    refine Rg_nil ?_
    refine Wp_cond rfl (fun hc39 => ?_) (fun hc39 => ?_)
    ·
     replace hm := bif_t hm hc39
     refine Wp_skip ?_
     refine Wp_seq ?_
     refine Wp_block ?_
     refine Wp_seq ?_
     refine Wp_region ?_
     refine Rg_op rfl (op_fieldAddr ty31 rfl ty24 (by decide) rfl (rfl : _ = (⟨_, 2, none⟩ : Addr)) ?_)
     refine Rg_op rfl (op_load (cs := [(Value.slice a_a_volumes a.volumes.length c_a_volumes), (Value.slice a_a_sectors a.sectors.length c_a_sectors), (Value.slice a_a_configs a.configs.length c_a_configs), (Value.slice a_a_segments a.segments.length c_a_segments), (Value.slice a_a_routes a.routes.length c_a_routes), (Value.slice a_a_airports a.airports.length c_a_airports), (Value.slice a_a_classes a.classes.length c_a_classes), (Value.slice a_a_rules a.rules.length c_a_rules)]) (i := 0) ty24 hs34 rfl rfl rfl ?_)
     refine Rg_op rfl (op_move (v := (Value.int .i64 i_2)) rfl ?_)
     replace hm := ck_some hm; obtain ⟨hc40, hm⟩ := hm
     refine Rg_op rfl (op_indexAddr (q := rXConfig) ty24 ty52 rfl rfl f_a_configs rfl hc40.1 hc40.2 ?_)
     intro p41 f42
     refine Rg_op rfl (op_fieldAddr ty52 rfl ty39 (by decide) rfl rfl ?_)
     have f43 := f42.via.snd.snd
     refine Rg_op rfl (op_loadP ty39 rfl f43 rfl ?_)
     intro v44 h45
     obtain ⟨a_y46, c_y46, rfl, f_y46⟩ := un_sl h45
     refine Rg_op rfl (op_len Try.underlying39 rfl ?_)
     refine Rg_op rfl (op_gtr rfl rfl ?_)
     refine Rg_nil ?_
     refine Wp_cond rfl (fun hc47 => ?_) (fun hc47 => ?_)
     ·
      replace hm := bif_t hm hc47
      refine Wp_seq ?_
      clear f42 f43 f_y46
      refine Wp_region ?_
      refine Rg_op rfl (op_assign (v := (Value.bool false)) rfl ?_)
      refine Rg_nil ?_
      refine Wp_ret ?_
      have hz := step_all hs34
      replace f_a_volumes := f_a_volumes.step hz; replace f_a_sectors := f_a_sectors.step hz; replace f_a_configs := f_a_configs.step hz; replace f_a_segments := f_a_segments.step hz; replace f_a_routes := f_a_routes.step hz; replace f_a_airports := f_a_airports.step hz; replace f_a_classes := f_a_classes.step hz; replace f_a_rules := f_a_rules.step hz
      refine ⟨_, (show Closes [] _ _ from rfl), [(Value.bool false)], ⟨rfl, trivial⟩, hs34.ext, ?_⟩
      exact Vr.eq (a := vB) (x := false) rfl (Option.some.inj hm)
     ·
      replace hm := bif_f hm hc47
      refine Wp_skip ?_
      clear f42 f43 f_y46
      refine Wp_region ?_
      refine Rg_op rfl (op_move (v := (Value.int .i64 i_2)) rfl ?_)
      refine Rg_op rfl (op_addw rfl rfl ?_)
      refine Rg_op rfl (op_assign (v := (Value.int .i64 (IntKind.wrap .i64 (i_2 + 1)))) rfl ?_)
      refine Rg_nil ?_
      exact hK31 _ _ ⟨(IntKind.wrap .i64 (i_2 + 1)), _, rfl, ⟨(by repeat (first | with_reducible exact Out.refl _ _ | refine Out.upd ?_ rfl | refine Out.updL ?_ rfl | refine Out.mix' ?_ rfl | exact Out.refl _ _)), rfl, rfl, trivial⟩, ch38, hs34, (inK_wrap .i64 _), jnE1 hsf30 hm⟩
    ·
     replace hm := bif_f hm hc39
     refine Wp_exit ?_
     refine Wp_seq ?_
     refine Wp_region ?_
     refine Rg_op rfl (op_fieldAddr ty31 rfl ty22 (by decide) rfl (rfl : _ = (⟨_, 0, none⟩ : Addr)) ?_)
     refine Rg_op rfl (op_load (cs := [(Value.slice a_a_volumes a.volumes.length c_a_volumes), (Value.slice a_a_sectors a.sectors.length c_a_sectors), (Value.slice a_a_configs a.configs.length c_a_configs), (Value.slice a_a_segments a.segments.length c_a_segments), (Value.slice a_a_routes a.routes.length c_a_routes), (Value.slice a_a_airports a.airports.length c_a_airports), (Value.slice a_a_classes a.classes.length c_a_classes), (Value.slice a_a_rules a.rules.length c_a_rules)]) (i := 0) ty22 hs34 rfl rfl rfl ?_)
     refine Rg_op rfl (op_len Try.underlying22 rfl ?_)
     refine Rg_op rfl (op_leq rfl rfl ?_)
     refine Rg_op rfl (op_move (v := (Value.bool (decide ((a.volumes.length : Int) ≤ 6)))) rfl ?_)
     refine Rg_case (fun hg48 => ?_) (fun hg48 => ?_)
     ·
      replace hm := bif_t hm hg48
      refine Rg_opg rfl rfl rfl (op_fieldAddr ty31 rfl ty23 (by decide) rfl (rfl : _ = (⟨_, 1, none⟩ : Addr)) ?_)
      refine Rg_opg rfl rfl rfl (op_load (cs := [(Value.slice a_a_volumes a.volumes.length c_a_volumes), (Value.slice a_a_sectors a.sectors.length c_a_sectors), (Value.slice a_a_configs a.configs.length c_a_configs), (Value.slice a_a_segments a.segments.length c_a_segments), (Value.slice a_a_routes a.routes.length c_a_routes), (Value.slice a_a_airports a.airports.length c_a_airports), (Value.slice a_a_classes a.classes.length c_a_classes), (Value.slice a_a_rules a.rules.length c_a_rules)]) (i := 0) ty23 hs34 rfl rfl rfl ?_)
      refine Rg_opg rfl rfl rfl (op_len Try.underlying23 rfl ?_)
      refine Rg_opg rfl rfl rfl (op_leq rfl rfl ?_)
      refine Rg_op rfl (op_pick_t (v := (Value.bool (decide ((a.sectors.length : Int) ≤ 12)))) rfl rfl ?_)
      refine Rg_op rfl (op_move (v := (Value.bool (decide ((a.sectors.length : Int) ≤ 12)))) rfl ?_)
      refine Rg_case (fun hg49 => ?_) (fun hg49 => ?_)
      ·
       replace hm := bif_t hm hg49
       refine Rg_opg rfl rfl rfl (op_fieldAddr ty31 rfl ty24 (by decide) rfl (rfl : _ = (⟨_, 2, none⟩ : Addr)) ?_)
       refine Rg_opg rfl rfl rfl (op_load (cs := [(Value.slice a_a_volumes a.volumes.length c_a_volumes), (Value.slice a_a_sectors a.sectors.length c_a_sectors), (Value.slice a_a_configs a.configs.length c_a_configs), (Value.slice a_a_segments a.segments.length c_a_segments), (Value.slice a_a_routes a.routes.length c_a_routes), (Value.slice a_a_airports a.airports.length c_a_airports), (Value.slice a_a_classes a.classes.length c_a_classes), (Value.slice a_a_rules a.rules.length c_a_rules)]) (i := 0) ty24 hs34 rfl rfl rfl ?_)
       refine Rg_opg rfl rfl rfl (op_len Try.underlying24 rfl ?_)
       refine Rg_opg rfl rfl rfl (op_leq rfl rfl ?_)
       refine Rg_op rfl (op_pick_t (v := (Value.bool (decide ((a.configs.length : Int) ≤ 7)))) rfl rfl ?_)
       refine Rg_op rfl (op_assign (v := (Value.bool (decide ((a.configs.length : Int) ≤ 7)))) rfl ?_)
       refine Rg_nil ?_
       refine Wp_ret ?_
       have hz := step_all hs34
       replace f_a_volumes := f_a_volumes.step hz; replace f_a_sectors := f_a_sectors.step hz; replace f_a_configs := f_a_configs.step hz; replace f_a_segments := f_a_segments.step hz; replace f_a_routes := f_a_routes.step hz; replace f_a_airports := f_a_airports.step hz; replace f_a_classes := f_a_classes.step hz; replace f_a_rules := f_a_rules.step hz
       refine ⟨_, (show Closes [] _ _ from rfl), [(Value.bool (decide ((a.configs.length : Int) ≤ 7)))], ⟨rfl, trivial⟩, hs34.ext, ?_⟩
       exact Vr.eq (a := vB) (x := (decide ((a.configs.length : Int) ≤ 7))) rfl (Option.some.inj hm)
      ·
       replace hm := bif_f hm hg49
       iterate 4 refine Rg_opx rfl (asB_ne rfl rfl) rfl ?_
       refine Rg_op rfl (op_pick_f (v := (Value.bool false)) rfl rfl ?_)
       refine Rg_op rfl (op_assign (v := (Value.bool false)) rfl ?_)
       refine Rg_nil ?_
       refine Wp_ret ?_
       have hz := step_all hs34
       replace f_a_volumes := f_a_volumes.step hz; replace f_a_sectors := f_a_sectors.step hz; replace f_a_configs := f_a_configs.step hz; replace f_a_segments := f_a_segments.step hz; replace f_a_routes := f_a_routes.step hz; replace f_a_airports := f_a_airports.step hz; replace f_a_classes := f_a_classes.step hz; replace f_a_rules := f_a_rules.step hz
       refine ⟨_, (show Closes [] _ _ from rfl), [(Value.bool false)], ⟨rfl, trivial⟩, hs34.ext, ?_⟩
       exact Vr.eq (a := vB) (x := false) rfl (Option.some.inj hm)
     ·
      replace hm := bif_f hm hg48
      iterate 4 refine Rg_opx rfl (asB_ne rfl rfl) rfl ?_
      refine Rg_op rfl (op_pick_f (v := (Value.bool false)) rfl rfl ?_)
      refine Rg_op rfl (op_move (v := (Value.bool false)) rfl ?_)
      iterate 4 refine Rg_opx rfl (asB_ne rfl rfl) rfl ?_
      refine Rg_op rfl (op_pick_f (v := (Value.bool false)) rfl rfl ?_)
      refine Rg_op rfl (op_assign (v := (Value.bool false)) rfl ?_)
      refine Rg_nil ?_
      refine Wp_ret ?_
      have hz := step_all hs34
      replace f_a_volumes := f_a_volumes.step hz; replace f_a_sectors := f_a_sectors.step hz; replace f_a_configs := f_a_configs.step hz; replace f_a_segments := f_a_segments.step hz; replace f_a_routes := f_a_routes.step hz; replace f_a_airports := f_a_airports.step hz; replace f_a_classes := f_a_classes.step hz; replace f_a_rules := f_a_rules.step hz
      refine ⟨_, (show Closes [] _ _ from rfl), [(Value.bool false)], ⟨rfl, trivial⟩, hs34.ext, ?_⟩
      exact Vr.eq (a := vB) (x := false) rfl (Option.some.inj hm)

end Go.Fx



set_option linter.unusedVariables false
set_option linter.unusedSimpArgs false
set_option maxRecDepth 100000
set_option maxHeartbeats 0
namespace Go.Fx
open Go Go.RowKit Go.Proofs
def m30_overflightref10_has_B0 (l : List Int) (n : Int) (sf3 : Int → Option Bool) (i_1 : Int) : Option Bool :=
 bif (decide (i_1 < (l.length : Int))) then
  ck ((0 : Int) ≤ i_1 ∧ i_1 < (l.length : Int)) <|
  bif (decide ((l.getD i_1.toNat default) = n)) then
   some true
  else
   sf3 (IntKind.wrap .i64 (i_1 + 1))
 else
  some false

def m30_overflightref10_has (l : List Int) (n : Int) : Option Bool :=
 loop1 (m30_overflightref10_has_B0 l n) (((l.length : Int) - 0).toNat + 1) 0

theorem c30_overflightref10_has {w : World} {O : List Nat} {l : List Int} {n : Int} {a_l : Option Addr} {c_l : Nat} (hO : ∀ k ∈ O, k < w.heap.size) (f_l : SlR (rInt .i64) w O a_l c_l l) (r_n : InK .i64 n) {x : Bool} (hm : m30_overflightref10_has l n = some x) :
  Ok Try.prog 30 [(Value.slice a_l l.length c_l), (Value.int .i64 n)] w O vB x := by
 unfold m30_overflightref10_has at hm
 refine Fn_of_Wp (n := 18) (xs := [.tmp 4]) Try.func30 rfl Try.ntmps30 Try.results30 rfl ?_
 have hs := St.start hO
 refine Wp_seq ?_
 refine Wp_region ?_
 refine Rg_op rfl (op_assign (v := (Value.bool false)) rfl ?_)
 refine Rg_nil ?_
 refine Wp_seq ?_
 refine Wp_seq ?_
 refine Wp_region ?_
 refine Rg_op rfl (op_assign (v := (Value.int .i64 0)) rfl ?_)
 refine Rg_nil ?_
 refine Wp_block ?_
 refine Wp_reset [] [(0, (Value.slice a_l l.length c_l)), (1, (Value.int .i64 n)), (5, (Value.int .i64 0))] rfl ⟨rfl, rfl, rfl, trivial⟩ fun ξ2 => ?_
 refine Wp_loopM [4, 5, 6, 7, 8, 9, 10, 11, 12, 13, 14, 15, 16, 17] (fun m fr w' => ∃ (i_1 : Int) (Ebs : Ents), Ebs = [] ∧ fr [] [(5, (Value.int .i64 i_1))] ∧ Step (ks [] O) w (ks Ebs O) w' ∧ St ⟨w, [], []⟩ O w' Ebs ∧ InK .i64 i_1 ∧ loop1 (m30_overflightref10_has_B0 l n) m i_1 = some x) (((l.length : Int) - 0).toNat + 1) ⟨0, _, rfl, ⟨Out.refl _ _, rfl, rfl, trivial⟩, Step.refl _ _, hs, (show InK .i64 0 from by decide), hm⟩ ?_ ?_
 · rintro _ _ ⟨_, _, _, _, _, _, _, hm⟩; exact loop1_z hm
 ·
  rintro m6 K5 hK5 ρ11 w7 ⟨i_1, Ebs, hEbs, hfr10, hst9, hs8, r_y1, hm⟩
  obtain ⟨sf3, hsf4, hm⟩ := loop1_s hm; unfold m30_overflightref10_has_B0 at hm
  subst hEbs; rw [hfr10.eq]; clear hfr10
  replace f_l := f_l.step hst9
  have ch12 := hst9
  refine Wp_seq ?_
  refine Wp_seq ?_
  refine Wp_region ?_
  refine Rg_op rfl (op_move (v := (Value.int .i64 i_1)) rfl ?_)
  refine Rg_op rfl (op_move (v := (Value.slice a_l l.length c_l)) rfl ?_)
  refine Rg_op rfl (op_len Try.underlying39 rfl ?_)
  refine Rg_op rfl (op_lss rfl rfl ?_)
  refine Rg_nil ?_
  refine Wp_cond rfl (fun hc13 => ?_) (fun hc13 => ?_)
  ·
   replace hm := bif_t hm hc13
   refine Wp_skip ?_
   refine Wp_seq ?_
   refine Wp_block ?_
   refine Wp_seq ?_
   refine Wp_region ?_
   refine Rg_op rfl (op_move (v := (Value.slice a_l l.length c_l)) rfl ?_)
   refine Rg_op rfl (op_move (v := (Value.int .i64 i_1)) rfl ?_)
   replace hm := ck_some hm; obtain ⟨hc14, hm⟩ := hm
   refine Rg_op rfl (op_indexAddr (q := (rInt .i64)) ty39 ty3 rfl rfl f_l rfl hc14.1 hc14.2 ?_)
   intro p15 f16
   refine Rg_op rfl (op_loadP ty3 rfl f16 rfl ?_)
   intro v17 h18
   obtain ⟨rfl, r_y19⟩ := un_int h18
   refine Rg_op rfl (op_move (v := (Value.int .i64 n)) rfl ?_)
   refine Rg_op rfl (op_eql rfl rfl ?_)
   refine Rg_nil ?_
   refine Wp_cond rfl (fun hc20 => ?_) (fun hc20 => ?_)
   ·
    replace hm := bif_t hm hc20
    refine Wp_seq ?_
    clear f_l f16
    refine Wp_region ?_
    refine Rg_op rfl (op_assign (v := (Value.bool true)) rfl ?_)
    refine Rg_nil ?_
    refine Wp_ret ?_
    have hz := step_all hs8
    refine ⟨_, (show Closes [] _ _ from rfl), [(Value.bool true)], ⟨rfl, trivial⟩, hs8.ext, ?_⟩
    exact Vr.eq (a := vB) (x := true) rfl (Option.some.inj hm)
   ·
    replace hm := bif_f hm hc20
    refine Wp_skip ?_
    clear f16
    refine Wp_region ?_
    refine Rg_op rfl (op_move (v := (Value.int .i64 i_1)) rfl ?_)
    refine Rg_op rfl (op_addw rfl rfl ?_)
    refine Rg_op rfl (op_assign (v := (Value.int .i64 (IntKind.wrap .i64 (i_1 + 1)))) rfl ?_)
    refine Rg_nil ?_
    exact hK5 _ _ ⟨(IntKind.wrap .i64 (i_1 + 1)), _, rfl, ⟨(by repeat (first | with_reducible exact Out.refl _ _ | refine Out.upd ?_ rfl | refine Out.updL ?_ rfl | refine Out.mix' ?_ rfl | exact Out.refl _ _)), rfl, rfl, trivial⟩, ch12, hs8, (inK_wrap .i64 _), jnE1 hsf4 hm⟩
  ·
   replace hm := bif_f hm hc13
   refine Wp_exit ?_
   refine Wp_seq ?_
   clear f_l
   refine Wp_region ?_
   refine Rg_op rfl (op_assign (v := (Value.bool false)) rfl ?_)
   refine Rg_nil ?_
   refine Wp_ret ?_
   have hz := step_all hs8
   refine ⟨_, (show Closes [] _ _ from rfl), [(Value.bool false)], ⟨rfl, trivial⟩, hs8.ext, ?_⟩
   exact Vr.eq (a := vB) (x := false) rfl (Option.some.inj hm)

end Go.Fx



set_option linter.unusedVariables false
set_option linter.unusedSimpArgs false
set_option maxRecDepth 100000
set_option maxHeartbeats 0
namespace Go.Fx
open Go Go.RowKit Go.Proofs
def m32_overflightref10_indices_B0 (l : List Int) (below : Int) (sf3 : Int → Option Bool) (i_1 : Int) : Option Bool :=
 bif (decide (i_1 < (l.length : Int))) then
  jn (fun (v_1 : Bool) =>
   bif v_1 then
    some false
   else
    sf3 (IntKind.wrap .i64 (i_1 + 1)))
  (fun k16 =>
   ck ((0 : Int) ≤ i_1 ∧ i_1 < (l.length : Int)) <|
   bif (decide ((l.getD i_1.toNat default) < 0)) then
    k16 true
   else
    ck ((0 : Int) ≤ i_1 ∧ i_1 < (l.length : Int)) <|
    bif (decide (below ≤ (l.getD i_1.toNat default))) then
     k16 true
    else
     ck ((0 : Int) ≤ i_1 ∧ i_1 ≤ (l.length : Int)) <|
     ck ((0 : Int) ≤ i_1 ∧ i_1 < (l.length : Int)) <|
     (m30_overflightref10_has ((l.drop 0).take (i_1.toNat - 0)) (l.getD i_1.toNat default)).bind fun has_1 =>
     k16 has_1)
 else
  some true

def m32_overflightref10_indices (l : List Int) (below : Int) : Option Bool :=
 loop1 (m32_overflightref10_indices_B0 l below) (((l.length : Int) - 0).toNat + 1) 0

theorem c32_overflightref10_indices {w : World} {O : List Nat} {l : List Int} {below : Int} {a_l : Option Addr} {c_l : Nat} (hO : ∀ k ∈ O, k < w.heap.size) (f_l : SlR (rInt .i64) w O a_l c_l l) (r_below : InK .i64 below) {x : Bool} (hm : m32_overflightref10_indices l below = some x) :
  Ok Try.prog 32 [(Value.slice a_l l.length c_l), (Value.int .i64 below)] w O vB x := by
 unfold m32_overflightref10_indices at hm
 refine Fn_of_Wp (n := 35) (xs := [.tmp 4]) Try.func32 rfl Try.ntmps32 Try.results32 rfl ?_
 have hs := St.start hO
 refine Wp_seq ?_
 refine Wp_region ?_
 refine Rg_op rfl (op_assign (v := (Value.bool false)) rfl ?_)
 refine Rg_nil ?_
 refine Wp_seq ?_
 refine Wp_seq ?_
 refine Wp_region ?_
 refine Rg_op rfl (op_assign (v := (Value.int .i64 0)) rfl ?_)
 refine Rg_nil ?_
 refine Wp_block ?_
 refine Wp_reset [] [(0, (Value.slice a_l l.length c_l)), (1, (Value.int .i64 below)), (5, (Value.int .i64 0))] rfl ⟨rfl, rfl, rfl, trivial⟩ fun ξ2 => ?_
 refine Wp_loopM [4, 5, 6, 7, 8, 9, 10, 11, 12, 13, 14, 15, 16, 17, 18, 19, 20, 21, 22, 23, 24, 25, 26, 27, 28, 29, 30, 31, 32, 33, 34] (fun m fr w' => ∃ (i_1 : Int) (Ebs : Ents), Ebs = [] ∧ fr [] [(5, (Value.int .i64 i_1))] ∧ Step (ks [] O) w (ks Ebs O) w' ∧ St ⟨w, [], []⟩ O w' Ebs ∧ InK .i64 i_1 ∧ loop1 (m32_overflightref10_indices_B0 l below) m i_1 = some x) (((l.length : Int) - 0).toNat + 1) ⟨0, _, rfl, ⟨Out.refl _ _, rfl, rfl, trivial⟩, Step.refl _ _, hs, (show InK .i64 0 from by decide), hm⟩ ?_ ?_
 · rintro _ _ ⟨_, _, _, _, _, _, _, hm⟩; exact loop1_z hm
 ·
  rintro m6 K5 hK5 ρ11 w7 ⟨i_1, Ebs, hEbs, hfr10, hst9, hs8, r_y1, hm⟩
  obtain ⟨sf3, hsf4, hm⟩ := loop1_s hm; unfold m32_overflightref10_indices_B0 at hm
  subst hEbs; rw [hfr10.eq]; clear hfr10
  replace f_l := f_l.step hst9
  have ch12 := hst9
  refine Wp_seq ?_
  refine Wp_seq ?_
  refine Wp_region ?_
  refine Rg_op rfl (op_move (v := (Value.int .i64 i_1)) rfl ?_)
  refine Rg_op rfl (op_move (v := (Value.slice a_l l.length c_l)) rfl ?_)
  refine Rg_op rfl (op_len Try.underlying39 rfl ?_)
  refine Rg_op rfl (op_lss rfl rfl ?_)
  refine Rg_nil ?_
  refine Wp_cond rfl (fun hc13 => ?_) (fun hc13 => ?_)
  ·
   replace hm := bif_t hm hc13
   refine Wp_skip ?_
   refine Wp_seq ?_
   refine Wp_block ?_
   refine Wp_reset2 [4, 5, 6, 7, 8, 9, 10, 11, 12, 13, 14, 15, 16, 17, 18, 19, 20, 21, 22, 23, 24, 25, 26, 27, 28, 29, 30, 31, 32, 33, 34] [] (updL ⟨ξ2, []⟩ [(0, (Value.slice a_l l.length c_l)), (1, (Value.int .i64 below)), (5, (Value.int .i64 0))]) [(5, (Value.int .i64 i_1))] (by repeat (first | with_reducible exact Out.refl _ _ | refine Out.upd ?_ rfl | refine Out.updL ?_ rfl | refine Out.mix' ?_ rfl | exact Out.refl _ _)) rfl ⟨rfl, trivial⟩ fun ξ14 => ?_
   replace hm := jn_elim hm; obtain ⟨k16, hk17, hm⟩ := hm
   refine Wp_seqJ [12, 13, 14, 15, 16, 17, 18, 19, 20, 21, 22, 23, 24, 25, 26, 27, 28, 29, 30, 31, 32, 33, 34] (fun fr w' => ∃ (v_1 : Bool) (Ebs : Ents), Ebs = [] ∧ fr [] [(34, (Value.bool v_1))] ∧ Step (ks [] O) w7 (ks Ebs O) w' ∧ St ⟨w, [], []⟩ O w' Ebs ∧ k16 v_1 = some x) ?_ ?_
   ·
    rintro ρ23 w19 ⟨v_1, Ebs, hEbs, hfr22, hst21, hs20, hm⟩
    replace hm := jnE1 hk17 hm
    subst hEbs; rw [hfr22.eq]; clear hfr22
    replace f_l := f_l.step hst21; replace ch12 := ch12.trans hst21; clear hst21 hs8
    refine Wp_cond rfl (fun hc24 => ?_) (fun hc24 => ?_)
    ·
     replace hm := bif_t hm hc24
     refine Wp_seq ?_
     clear f_l
     refine Wp_region ?_
     refine Rg_op rfl (op_assign (v := (Value.bool false)) rfl ?_)
     refine Rg_nil ?_
     refine Wp_ret ?_
     have hz := step_all hs20
     refine ⟨_, (show Closes [] _ _ from rfl), [(Value.bool false)], ⟨rfl, trivial⟩, hs20.ext, ?_⟩
     exact Vr.eq (a := vB) (x := false) rfl (Option.some.inj hm)
    ·
     replace hm := bif_f hm hc24
     refine Wp_skip ?_
     refine Wp_region ?_
     refine Rg_op rfl (op_move (v := (Value.int .i64 i_1)) rfl ?_)
     refine Rg_op rfl (op_addw rfl rfl ?_)
     refine Rg_op rfl (op_assign (v := (Value.int .i64 (IntKind.wrap .i64 (i_1 + 1)))) rfl ?_)
     refine Rg_nil ?_
     exact hK5 _ _ ⟨(IntKind.wrap .i64 (i_1 + 1)), _, rfl, ⟨(by repeat (first | with_reducible exact Out.refl _ _ | refine Out.upd ?_ rfl | refine Out.updL ?_ rfl | refine Out.mix' ?_ rfl | exact Out.refl _ _)), rfl, rfl, trivial⟩, ch12, hs20, (inK_wrap .i64 _), jnE1 hsf4 hm⟩
   ·
    intro K18 hK18
    have ch25 := Step.refl (ks [] O) w7
    refine Wp_drawR (g0 := []) (m := 21) (fl := []) (TS_inv hs8) (.inl rfl) rfl (by decide +kernel) ?_  -- 4
    refine Dw_eq (Value.slice a_l l.length c_l) (fun ρ26 w27 g hle hi ht => ?_) ?_
    ·
     obtain ⟨-, hst, -⟩ := hle
     refine StepOp_plain (op_move (v := (Value.slice a_l l.length c_l)) (ht 0 rfl) ?_)
     exact Goes.same hi rfl
    refine Dw_eq (Value.int .i64 i_1) (fun ρ29 w30 g hle hi ht => ?_) ?_
    ·
     obtain ⟨-, hst, -⟩ := hle
     refine StepOp_plain (op_move (v := (Value.int .i64 i_1)) (ht 5 rfl) ?_)
     exact Goes.same hi rfl
    replace hm := ck_some hm; obtain ⟨hc35, hm⟩ := hm
    refine Dw_op (VP O [] (rInt .i64) (l.getD i_1.toNat default)) (VP.stab _ _) (fun ρ32 w33 g hle hi ht => ?_) ?_
    ·
     obtain ⟨-, hst, -⟩ := hle
     replace f_l := f_l.step hst
     refine StepOp_plain (op_indexAddr (q := (rInt .i64)) ty39 ty3 (ht 12 rfl) (ht 13 rfl) f_l rfl hc35.1 hc35.2 ?_)
     intro p36 f37
     exact Goes.same hi ⟨_, rfl, f37⟩
    refine Dw_op (VD O [] (vI .i64) (l.getD i_1.toNat default)) (VD.stab _ _) (fun ρ38 w39 g hle hi ht => ?_) ?_
    ·
     obtain ⟨-, hst, -⟩ := hle
     obtain ⟨p41, q42, f43⟩ := ht 14 rfl
     refine StepOp_plain (op_loadP ty3 q42 f43 rfl ?_)
     intro v44 h45
     obtain ⟨rfl, r_y46⟩ := un_int h45
     exact Goes.same hi (show Vr.vd (vI .i64) _ _ _ _ from ⟨rfl, r_y46⟩)
    refine Dw_eq (Value.bool (decide ((l.getD i_1.toNat default) < 0))) (fun ρ47 w48 g hle hi ht => ?_) ?_
    ·
     obtain ⟨-, hst, -⟩ := hle
     have h50 : Vr.vd (vI .i64) _ _ _ _ := ht 15 rfl
     obtain ⟨q51, r_y52⟩ := h50
     refine StepOp_plain (op_lss q51 rfl ?_)
     exact Goes.same hi rfl
    refine Dw_opB (decide ((l.getD i_1.toNat default) < 0)) (fun ρ53 w54 g hle hi ht => ?_) (fun hg56 => ?_) (fun hg56 => ?_)
    ·
     obtain ⟨-, hst, -⟩ := hle
     refine StepOp_plain (op_move (v := (Value.bool (decide ((l.getD i_1.toNat default) < 0)))) (ht 16 rfl) ?_)
     exact Goes.same hi rfl
    ·
     replace hm := bif_t hm hg56
     refine Dw_skip (fun _ _ _ ht => wanted_x rfl (ht 17 rfl) rfl) ?_
     refine Dw_skip (fun _ _ _ ht => wanted_x rfl (ht 17 rfl) rfl) ?_
     refine Dw_skip (fun _ _ _ ht => wanted_x rfl (ht 17 rfl) rfl) ?_
     refine Dw_skip (fun _ _ _ ht => wanted_x rfl (ht 17 rfl) rfl) ?_
     refine Dw_skip (fun _ _ _ ht => wanted_x rfl (ht 17 rfl) rfl) ?_
     refine Dw_skip (fun _ _ _ ht => wanted_x rfl (ht 17 rfl) rfl) ?_
     refine Dw_eq (Value.bool true) (fun ρ57 w58 g hle hi ht => ?_) ?_
     ·
      obtain ⟨-, hst, -⟩ := hle
      refine StepOp_plain (op_pick_t (v := (Value.bool true)) (ht 17 rfl) rfl ?_)
      exact Goes.same hi rfl
     refine Dw_eq (Value.bool true) (fun ρ60 w61 g hle hi ht => ?_) ?_
     ·
      obtain ⟨-, hst, -⟩ := hle
      refine StepOp_plain (op_move (v := (Value.bool true)) (ht 24 rfl) ?_)
      exact Goes.same hi rfl
     refine Dw_skip (fun _ _ _ ht => wanted_x rfl (ht 25 rfl) rfl) ?_
     refine Dw_skip (fun _ _ _ ht => wanted_x rfl (ht 25 rfl) rfl) ?_
     refine Dw_skip (fun _ _ _ ht => wanted_x rfl (ht 25 rfl) rfl) ?_
     refine Dw_skip (fun _ _ _ ht => wanted_x rfl (ht 25 rfl) rfl) ?_
     refine Dw_skip (fun _ _ _ ht => wanted_x rfl (ht 25 rfl) rfl) ?_
     refine Dw_skip (fun _ _ _ ht => wanted_x rfl (ht 25 rfl) rfl) ?_
     refine Dw_skip (fun _ _ _ ht => wanted_x rfl (ht 25 rfl) rfl) ?_
     refine Dw_nil fun w67 g68 hl69 hi70 => ?_
     obtain ⟨-, hst71, -⟩ := hl69
     obtain ⟨hs73, p72⟩ := Step.nx hi70
     rintro _ rfl
     rintro _ rfl
     rintro _ rfl
     rintro _ rfl
     rintro _ rfl
     rintro _ rfl
     rintro _ rfl
     rintro _ rfl
     rintro _ rfl
     rintro _ rfl
     rintro _ rfl
     rintro _ rfl
     rintro _ rfl
     rintro _ rfl
     rintro _ rfl
     rintro _ rfl
     rintro _ rfl
     rintro v74 h75
     replace h75 : Vr.vd (vI .i64) _ _ _ _ := h75
     obtain ⟨rfl, r_y76⟩ := h75
     rintro _ ⟨p77, rfl, f78⟩
     rintro _ rfl
     rintro _ rfl
     have p79 : Step (ks [] O) w7 (ks [] O) w67 := hst71.trans p72
     replace f78 := f78.step p72; replace f_l := f_l.step p79; replace ch12 := ch12.trans p79; replace ch25 := ch25.trans p79; clear p79 hs8
     refine Rg_opx rfl (asB_ne rfl rfl) rfl ?_
     refine Rg_op rfl (op_pick_t (v := (Value.bool true)) rfl rfl ?_)
     refine Rg_nil ?_
     exact hK18 _ _ ⟨true, _, rfl, ⟨(by repeat (first | with_reducible exact Out.refl _ _ | refine Out.upd ?_ rfl | refine Out.updL ?_ rfl | refine Out.mix' ?_ rfl | exact Out.refl _ _)), rfl, rfl, trivial⟩, ch25, hs73, hm⟩
    ·
     replace hm := bif_f hm hg56
     refine Dw_eq (Value.slice a_l l.length c_l) (fun ρ80 w81 g hle hi ht => ?_) ?_
     ·
      obtain ⟨-, hst, -⟩ := hle
      refine StepOp_g rfl (ht 17 rfl) (op_move (v := (Value.slice a_l l.length c_l)) (ht 0 rfl) ?_)
      exact Goes.same hi rfl
     refine Dw_eq (Value.int .i64 i_1) (fun ρ83 w84 g hle hi ht => ?_) ?_
     ·
      obtain ⟨-, hst, -⟩ := hle
      refine StepOp_g rfl (ht 17 rfl) (op_move (v := (Value.int .i64 i_1)) (ht 5 rfl) ?_)
      exact Goes.same hi rfl
     replace hm := ck_some hm; obtain ⟨hc89, hm⟩ := hm
     refine Dw_op (VP O [] (rInt .i64) (l.getD i_1.toNat default)) (VP.stab _ _) (fun ρ86 w87 g hle hi ht => ?_) ?_
     ·
      obtain ⟨-, hst, -⟩ := hle
      replace f_l := f_l.step hst
      refine StepOp_g rfl (ht 17 rfl) (op_indexAddr (q := (rInt .i64)) ty39 ty3 (ht 18 rfl) (ht 19 rfl) f_l rfl hc89.1 hc89.2 ?_)
      intro p90 f91
      exact Goes.same hi ⟨_, rfl, f91⟩
     refine Dw_op (VD O [] (vI .i64) (l.getD i_1.toNat default)) (VD.stab _ _) (fun ρ92 w93 g hle hi ht => ?_) ?_
     ·
      obtain ⟨-, hst, -⟩ := hle
      obtain ⟨p95, q96, f97⟩ := ht 20 rfl
      refine StepOp_g rfl (ht 17 rfl) (op_loadP ty3 q96 f97 rfl ?_)
      intro v98 h99
      obtain ⟨rfl, r_y100⟩ := un_int h99
      exact Goes.same hi (show Vr.vd (vI .i64) _ _ _ _ from ⟨rfl, r_y100⟩)
     refine Dw_eq (Value.int .i64 below) (fun ρ101 w102 g hle hi ht => ?_) ?_
     ·
      obtain ⟨-, hst, -⟩ := hle
      refine StepOp_g rfl (ht 17 rfl) (op_move (v := (Value.int .i64 below)) (ht 1 rfl) ?_)
      exact Goes.same hi rfl
     refine Dw_eq (Value.bool (decide (below ≤ (l.getD i_1.toNat default)))) (fun ρ104 w105 g hle hi ht => ?_) ?_
     ·
      obtain ⟨-, hst, -⟩ := hle
      have h107 : Vr.vd (vI .i64) _ _ _ _ := ht 21 rfl
      obtain ⟨q108, r_y109⟩ := h107
      refine StepOp_g rfl (ht 17 rfl) (op_geq q108 (ht 22 rfl) ?_)
      exact Goes.same hi rfl
     refine Dw_eq (Value.bool (decide (below ≤ (l.getD i_1.toNat default)))) (fun ρ110 w111 g hle hi ht => ?_) ?_
     ·
      obtain ⟨-, hst, -⟩ := hle
      refine StepOp_plain (op_pick_f (v := (Value.bool (decide (below ≤ (l.getD i_1.toNat default))))) (ht 17 rfl) (ht 23 rfl) ?_)
      exact Goes.same hi rfl
     refine Dw_opB (decide (below ≤ (l.getD i_1.toNat default))) (fun ρ113 w114 g hle hi ht => ?_) (fun hg116 => ?_) (fun hg116 => ?_)
     ·
      obtain ⟨-, hst, -⟩ := hle
      refine StepOp_plain (op_move (v := (Value.bool (decide (below ≤ (l.getD i_1.toNat default))))) (ht 24 rfl) ?_)
      exact Goes.same hi rfl
     ·
      replace hm := bif_t hm hg116
      refine Dw_skip (fun _ _ _ ht => wanted_x rfl (ht 25 rfl) rfl) ?_
      refine Dw_skip (fun _ _ _ ht => wanted_x rfl (ht 25 rfl) rfl) ?_
      refine Dw_skip (fun _ _ _ ht => wanted_x rfl (ht 25 rfl) rfl) ?_
      refine Dw_skip (fun _ _ _ ht => wanted_x rfl (ht 25 rfl) rfl) ?_
      refine Dw_skip (fun _ _ _ ht => wanted_x rfl (ht 25 rfl) rfl) ?_
      refine Dw_skip (fun _ _ _ ht => wanted_x rfl (ht 25 rfl) rfl) ?_
      refine Dw_skip (fun _ _ _ ht => wanted_x rfl (ht 25 rfl) rfl) ?_
      refine Dw_nil fun w121 g122 hl123 hi124 => ?_
      obtain ⟨-, hst125, -⟩ := hl123
      obtain ⟨hs127, p126⟩ := Step.nx hi124
      rintro _ rfl
      rintro _ rfl
      rintro _ rfl
      rintro _ rfl
      rintro _ rfl
      rintro _ rfl
      rintro _ rfl
      rintro _ rfl
      rintro _ rfl
      rintro _ rfl
      rintro _ rfl
      rintro v128 h129
      replace h129 : Vr.vd (vI .i64) _ _ _ _ := h129
      obtain ⟨rfl, r_y130⟩ := h129
      rintro _ ⟨p131, rfl, f132⟩
      rintro _ rfl
      rintro _ rfl
      rintro _ rfl
      rintro _ rfl
      rintro v133 h134
      replace h134 : Vr.vd (vI .i64) _ _ _ _ := h134
      obtain ⟨rfl, r_y135⟩ := h134
      rintro _ ⟨p136, rfl, f137⟩
      rintro _ rfl
      rintro _ rfl
      have p138 : Step (ks [] O) w7 (ks [] O) w121 := hst125.trans p126
      replace f132 := f132.step p126; replace f137 := f137.step p126; replace f_l := f_l.step p138; replace ch12 := ch12.trans p138; replace ch25 := ch25.trans p138; clear p138 hs8
      refine Rg_opx rfl (asB_ne rfl rfl) rfl ?_
      refine Rg_op rfl (op_pick_t (v := (Value.bool true)) rfl rfl ?_)
      refine Rg_nil ?_
      exact hK18 _ _ ⟨true, _, rfl, ⟨(by repeat (first | with_reducible exact Out.refl _ _ | refine Out.upd ?_ rfl | refine Out.updL ?_ rfl | refine Out.mix' ?_ rfl | exact Out.refl _ _)), rfl, rfl, trivial⟩, ch25, hs127, hm⟩
     ·
      replace hm := bif_f hm hg116
      refine Dw_eq (Value.slice a_l l.length c_l) (fun ρ139 w140 g hle hi ht => ?_) ?_
      ·
       obtain ⟨-, hst, -⟩ := hle
       refine StepOp_g rfl (ht 25 rfl) (op_move (v := (Value.slice a_l l.length c_l)) (ht 0 rfl) ?_)
       exact Goes.same hi rfl
      refine Dw_eq (Value.int .i64 i_1) (fun ρ142 w143 g hle hi ht => ?_) ?_
      ·
       obtain ⟨-, hst, -⟩ := hle
       refine StepOp_g rfl (ht 25 rfl) (op_move (v := (Value.int .i64 i_1)) (ht 5 rfl) ?_)
       exact Goes.same hi rfl
      replace hm := ck_some hm; obtain ⟨hc148, hm⟩ := hm
      refine Dw_op (VD O [] (vC (rSl (rInt .i64))) ((l.drop 0).take (i_1.toNat - 0))) (VD.stab _ _) (fun ρ145 w146 g hle hi ht => ?_) ?_
      ·
       obtain ⟨-, hst, -⟩ := hle
       replace f_l := f_l.step hst
       refine StepOp_g rfl (ht 25 rfl) (op_slice (q := (rInt .i64)) (l := 0) (h := i_1.toNat) (m := c_l) ty39 ty3 (ht 26 rfl) f_l rfl rfl (bndI (ht 27 rfl) (by omega)) rfl (by decide) (by omega) (by omega) (by have h_ : l.length ≤ c_l := f_l.le; omega) (by have h_ : l.length ≤ c_l := f_l.le; omega) ?_)
       intro a149 f150
       exact Goes.same hi (show Vr.vd (vC (rSl (rInt .i64))) _ _ _ _ from (mkC (mk_sl f150)))
      refine Dw_eq (Value.slice a_l l.length c_l) (fun ρ151 w152 g hle hi ht => ?_) ?_
      ·
       obtain ⟨-, hst, -⟩ := hle
       refine StepOp_g rfl (ht 25 rfl) (op_move (v := (Value.slice a_l l.length c_l)) (ht 0 rfl) ?_)
       exact Goes.same hi rfl
      refine Dw_eq (Value.int .i64 i_1) (fun ρ154 w155 g hle hi ht => ?_) ?_
      ·
       obtain ⟨-, hst, -⟩ := hle
       refine StepOp_g rfl (ht 25 rfl) (op_move (v := (Value.int .i64 i_1)) (ht 5 rfl) ?_)
       exact Goes.same hi rfl
      replace hm := ck_some hm; obtain ⟨hc160, hm⟩ := hm
      refine Dw_op (VP O [] (rInt .i64) (l.getD i_1.toNat default)) (VP.stab _ _) (fun ρ157 w158 g hle hi ht => ?_) ?_
      ·
       obtain ⟨-, hst, -⟩ := hle
       replace f_l := f_l.step hst
       refine StepOp_g rfl (ht 25 rfl) (op_indexAddr (q := (rInt .i64)) ty39 ty3 (ht 29 rfl) (ht 30 rfl) f_l rfl hc160.1 hc160.2 ?_)
       intro p161 f162
       exact Goes.same hi ⟨_, rfl, f162⟩
      refine Dw_op (VD O [] (vI .i64) (l.getD i_1.toNat default)) (VD.stab _ _) (fun ρ163 w164 g hle hi ht => ?_) ?_
      ·
       obtain ⟨-, hst, -⟩ := hle
       obtain ⟨p166, q167, f168⟩ := ht 31 rfl
       refine StepOp_g rfl (ht 25 rfl) (op_loadP ty3 q167 f168 rfl ?_)
       intro v169 h170
       obtain ⟨rfl, r_y171⟩ := un_int h170
       exact Goes.same hi (show Vr.vd (vI .i64) _ _ _ _ from ⟨rfl, r_y171⟩)
      refine Dw_nil fun w176 g177 hl178 hi179 => ?_
      obtain ⟨-, hst180, -⟩ := hl178
      obtain ⟨hs182, p181⟩ := Step.nx hi179
      rintro v183 h184
      replace h184 : Vr.vd (vI .i64) _ _ _ _ := h184
      obtain ⟨rfl, r_y185⟩ := h184
      rintro _ ⟨p186, rfl, f187⟩
      rintro _ rfl
      rintro _ rfl
      rintro v188 h189
      replace h189 : Vr.vd (vC (rSl (rInt .i64))) _ _ _ _ := h189
      obtain ⟨a_y190, c_y190, rfl, f_y190⟩ := un_sl h189
      rintro _ rfl
      rintro _ rfl
      rintro _ rfl
      rintro _ rfl
      rintro _ rfl
      rintro _ rfl
      rintro v191 h192
      replace h192 : Vr.vd (vI .i64) _ _ _ _ := h192
      obtain ⟨rfl, r_y193⟩ := h192
      rintro _ ⟨p194, rfl, f195⟩
      rintro _ rfl
      rintro _ rfl
      rintro _ rfl
      rintro _ rfl
      rintro v196 h197
      replace h197 : Vr.vd (vI .i64) _ _ _ _ := h197
      obtain ⟨rfl, r_y198⟩ := h197
      rintro _ ⟨p199, rfl, f200⟩
      rintro _ rfl
      rintro _ rfl
      have p201 : Step (ks [] O) w7 (ks [] O) w176 := hst180.trans p181
      replace f187 := f187.step p181; replace f_y190 := f_y190.step p181; replace f195 := f195.step p181; replace f200 := f200.step p181; replace f_l := f_l.step p201; replace ch12 := ch12.trans p201; replace ch25 := ch25.trans p201; clear p201 hs8
      replace hm := bd hm; obtain ⟨has_1, hv202, hm⟩ := hm
      refine Rg_opg rfl rfl rfl (op_call Try.call30 (c30_overflightref10_has (l := ((l.drop 0).take (i_1.toNat - 0))) (n := (l.getD i_1.toNat default)) hs182.ltw f_y190 r_y185 hv202) rfl ?_)
      rintro v203 w204 ⟨hx205, h206⟩
      have hs207 := hs182.call hx205
      have p208 := Step.ext (O := ks [] O) hx205
      clear hx205
      replace f_l := f_l.step p208; replace f187 := f187.step p208; replace f_y190 := f_y190.step p208; replace f195 := f195.step p208; replace f200 := f200.step p208; replace ch12 := ch12.trans p208; replace ch25 := ch25.trans p208; clear p208 hs182
      obtain rfl := h206
      refine Rg_op rfl (op_pick_f (v := (Value.bool has_1)) rfl rfl ?_)
      refine Rg_nil ?_
      exact hK18 _ _ ⟨has_1, _, rfl, ⟨(by repeat (first | with_reducible exact Out.refl _ _ | refine Out.upd ?_ rfl | refine Out.updL ?_ rfl | refine Out.mix' ?_ rfl | exact Out.refl _ _)), rfl, rfl, trivial⟩, ch25, hs207, hm⟩
  ·
   replace hm := bif_f hm hc13
   refine Wp_exit ?_
   refine Wp_seq ?_
   clear f_l
   refine Wp_region ?_
   refine Rg_op rfl (op_assign (v := (Value.bool true)) rfl ?_)
   refine Rg_nil ?_
   refine Wp_ret ?_
   have hz := step_all hs8
   refine ⟨_, (show Closes [] _ _ from rfl), [(Value.bool true)], ⟨rfl, trivial⟩, hs8.ext, ?_⟩
   exact Vr.eq (a := vB) (x := true) rfl (Option.some.inj hm)

end Go.Fx



set_option linter.unusedVariables false
set_option linter.unusedSimpArgs false
set_option maxRecDepth 100000
set_option maxHeartbeats 0
namespace Go.Fx
open Go Go.RowKit Go.Proofs
def m33_overflightref10_divides_B1 (a : XAirspace) (c : XConfig) (v_1 : Int) (sf24 : Int → Option Bool) (sf38 : Int → Int → Option Bool) (n_1 : Int) (i_1 : Int) : Option Bool :=
 bif (decide (i_1 < (c.sectors.length : Int))) then
  ck ((0 : Int) ≤ i_1 ∧ i_1 < (c.sectors.length : Int)) <|
  ck ((0 : Int) ≤ (c.sectors.getD i_1.toNat default) ∧ (c.sectors.getD i_1.toNat default) < (a.sectors.length : Int)) <|
  (m30_overflightref10_has ((a.sectors.getD (c.sectors.getD i_1.toNat default).toNat default).volumes) v_1).bind fun has_1 =>
  bif has_1 then
   sf38 (IntKind.wrap .i64 (n_1 + 1)) (IntKind.wrap .i64 (i_1 + 1))
  else
   sf38 n_1 (IntKind.wrap .i64 (i_1 + 1))
 else
  bif (decide (n_1 ≠ 1)) then
   some false
  else
   sf24 (IntKind.wrap .i64 (v_1 + 1))

def m33_overflightref10_divides_B0 (a : XAirspace) (c : XConfig) (sf24 : Int → Option Bool) (v_1 : Int) : Option Bool :=
 bif (decide (v_1 < (a.volumes.length : Int))) then
  loop2 (m33_overflightref10_divides_B1 a c v_1 sf24) (((c.sectors.length : Int) - 0).toNat + 1) 0 0
 else
  some true

def m33_overflightref10_divides (a : XAirspace) (c : XConfig) : Option Bool :=
 (m32_overflightref10_indices c.sectors (a.sectors.length : Int)).bind fun indices_1 =>
 bif (!indices_1) then
  some false
 else
  loop1 (m33_overflightref10_divides_B0 a c) (((a.volumes.length : Int) - 0).toNat + 1) 0

theorem c33_overflightref10_divides {w : World} {O : List Nat} {a : XAirspace} {c : XConfig} {a_a_volumes : Option Addr} {c_a_volumes : Nat} {a_a_sectors : Option Addr} {c_a_sectors : Nat} {a_a_configs : Option Addr} {c_a_configs : Nat} {a_a_segments : Option Addr} {c_a_segments : Nat} {a_a_routes : Option Addr} {c_a_routes : Nat} {a_a_airports : Option Addr} {c_a_airports : Nat} {a_a_classes : Option Addr} {c_a_classes : Nat} {a_a_rules : Option Addr} {c_a_rules : Nat} {a_c_names : Option Addr} {c_c_names : Nat} {a_c_sectors : Option Addr} {c_c_sectors : Nat} (hO : ∀ k ∈ O, k < w.heap.size) (f_a_volumes : SlR rXVolume w O a_a_volumes c_a_volumes a.volumes) (f_a_sectors : SlR rXSector w O a_a_sectors c_a_sectors a.sectors) (f_a_configs : SlR rXConfig w O a_a_configs c_a_configs a.configs) (f_a_segments : SlR rXSegment w O a_a_segments c_a_segments a.segments) (f_a_routes : SlR rXRoute w O a_a_routes c_a_routes a.routes) (f_a_airports : SlR rXAirport w O a_a_airports c_a_airports a.airports) (f_a_classes : SlR rXClass w O a_a_classes c_a_classes a.classes) (f_a_rules : SlR rXRule w O a_a_rules c_a_rules a.rules) (f_c_names : SlR rStr w O a_c_names c_c_names c.names) (f_c_sectors : SlR (rInt .i64) w O a_c_sectors c_c_sectors c.sectors) {x : Bool} (hm : m33_overflightref10_divides a c = some x) :
  Ok Try.prog 33 [(Value.agg [(Value.slice a_a_volumes a.volumes.length c_a_volumes), (Value.slice a_a_sectors a.sectors.length c_a_sectors), (Value.slice a_a_configs a.configs.length c_a_configs), (Value.slice a_a_segments a.segments.length c_a_segments), (Value.slice a_a_routes a.routes.length c_a_routes), (Value.slice a_a_airports a.airports.length c_a_airports), (Value.slice a_a_classes a.classes.length c_a_classes), (Value.slice a_a_rules a.rules.length c_a_rules)].toArray), (Value.agg [(Value.string (bs c.name)), (Value.slice a_c_names c.names.length c_c_names), (Value.slice a_c_sectors c.sectors.length c_c_sectors)].toArray)] w O vB x := by
 unfold m33_overflightref10_divides at hm
 refine Fn_of_Wp (n := 45) (xs := [.tmp 4]) Try.func33 rfl Try.ntmps33 Try.results33 rfl ?_
 have hs := St.start hO
 refine Wp_seq ?_
 refine Wp_region ?_
 refine Rg_op rfl (op_box (cs := [(Value.slice a_a_volumes a.volumes.length c_a_volumes), (Value.slice a_a_sectors a.sectors.length c_a_sectors), (Value.slice a_a_configs a.configs.length c_a_configs), (Value.slice a_a_segments a.segments.length c_a_segments), (Value.slice a_a_routes a.routes.length c_a_routes), (Value.slice a_a_airports a.airports.length c_a_airports), (Value.slice a_a_classes a.classes.length c_a_classes), (Value.slice a_a_rules a.rules.length c_a_rules)]) hs rfl rfl ?_)
 intro b1 w2 _ p3 hs4
 replace f_a_volumes := f_a_volumes.step p3; replace f_a_sectors := f_a_sectors.step p3; replace f_a_configs := f_a_configs.step p3; replace f_a_segments := f_a_segments.step p3; replace f_a_routes := f_a_routes.step p3; replace f_a_airports := f_a_airports.step p3; replace f_a_classes := f_a_classes.step p3; replace f_a_rules := f_a_rules.step p3; replace f_c_names := f_c_names.step p3; replace f_c_sectors := f_c_sectors.step p3; clear p3
 refine Rg_op rfl (op_box (cs := [(Value.string (bs c.name)), (Value.slice a_c_names c.names.length c_c_names), (Value.slice a_c_sectors c.sectors.length c_c_sectors)]) hs4 rfl rfl ?_)
 intro b6 w7 _ p8 hs9
 replace f_a_volumes := f_a_volumes.step p8; replace f_a_sectors := f_a_sectors.step p8; replace f_a_configs := f_a_configs.step p8; replace f_a_segments := f_a_segments.step p8; replace f_a_routes := f_a_routes.step p8; replace f_a_airports := f_a_airports.step p8; replace f_a_classes := f_a_classes.step p8; replace f_a_rules := f_a_rules.step p8; replace f_c_names := f_c_names.step p8; replace f_c_sectors := f_c_sectors.step p8; clear p8 hs4
 refine Rg_op rfl (op_assign (v := (Value.bool false)) rfl ?_)
 refine Rg_nil ?_
 refine Wp_seq ?_
 refine Wp_seq ?_
 refine Wp_region ?_
 refine Rg_op rfl (op_fieldAddr ty52 rfl ty39 (by decide) rfl (rfl : _ = (⟨_, 2, none⟩ : Addr)) ?_)
 refine Rg_op rfl (op_load (cs := [(Value.string (bs c.name)), (Value.slice a_c_names c.names.length c_c_names), (Value.slice a_c_sectors c.sectors.length c_c_sectors)]) (i := 0) ty39 hs9 rfl rfl rfl ?_)
 refine Rg_op rfl (op_fieldAddr ty31 rfl ty23 (by decide) rfl (rfl : _ = (⟨_, 1, none⟩ : Addr)) ?_)
 refine Rg_op rfl (op_load (cs := [(Value.slice a_a_volumes a.volumes.length c_a_volumes), (Value.slice a_a_sectors a.sectors.length c_a_sectors), (Value.slice a_a_configs a.configs.length c_a_configs), (Value.slice a_a_segments a.segments.length c_a_segments), (Value.slice a_a_routes a.routes.length c_a_routes), (Value.slice a_a_airports a.airports.length c_a_airports), (Value.slice a_a_classes a.classes.length c_a_classes), (Value.slice a_a_rules a.rules.length c_a_rules)]) (i := 1) ty23 hs9 rfl rfl rfl ?_)
 refine Rg_op rfl (op_len Try.underlying23 rfl ?_)
 replace hm := bd hm; obtain ⟨indices_1, hv11, hm⟩ := hm
 refine Rg_op rfl (op_call Try.call32 (c32_overflightref10_indices (l := c.sectors) (below := (a.sectors.length : Int)) hs9.ltw f_c_sectors (inK_len f_a_sectors) hv11) rfl ?_)
 rintro v12 w13 ⟨hx14, h15⟩
 have hs16 := hs9.call hx14
 have p17 := Step.ext (O := ks [(some b6, Obj.cells [(Value.string (bs c.name)), (Value.slice a_c_names c.names.length c_c_names), (Value.slice a_c_sectors c.sectors.length c_c_sectors)].toArray 52), (some b1, Obj.cells [(Value.slice a_a_volumes a.volumes.length c_a_volumes), (Value.slice a_a_sectors a.sectors.length c_a_sectors), (Value.slice a_a_configs a.configs.length c_a_configs), (Value.slice a_a_segments a.segments.length c_a_segments), (Value.slice a_a_routes a.routes.length c_a_routes), (Value.slice a_a_airports a.airports.length c_a_airports), (Value.slice a_a_classes a.classes.length c_a_classes), (Value.slice a_a_rules a.rules.length c_a_rules)].toArray 31)] O) hx14
 clear hx14
 replace f_a_volumes := f_a_volumes.step p17; replace f_a_sectors := f_a_sectors.step p17; replace f_a_configs := f_a_configs.step p17; replace f_a_segments := f_a_segments.step p17; replace f_a_routes := f_a_routes.step p17; replace f_a_airports := f_a_airports.step p17; replace f_a_classes := f_a_classes.step p17; replace f_a_rules := f_a_rules.step p17; replace f_c_names := f_c_names.step p17; replace f_c_sectors := f_c_sectors.step p17; clear p17 hs9
 obtain rfl := h15
 refine Rg_op rfl (op_not rfl ?_)
 refine Rg_nil ?_
 refine Wp_cond rfl (fun hc19 => ?_) (fun hc19 => ?_)
 ·
  replace hm := bif_t hm hc19
  refine Wp_seq ?_
  obtain ⟨hs20, p21⟩ := hs16.sub (bs' := []) (.cons _ (.cons _ List.Sublist.slnil))
  clear f_a_volumes f_a_sectors f_a_configs f_a_segments f_a_routes f_a_airports f_a_classes f_a_rules f_c_names f_c_sectors
  clear p21 hs16
  refine Wp_region ?_
  refine Rg_op rfl (op_assign (v := (Value.bool false)) rfl ?_)
  refine Rg_nil ?_
  refine Wp_ret ?_
  have hz := step_all hs20
  refine ⟨_, (show Closes [] _ _ from rfl), [(Value.bool false)], ⟨rfl, trivial⟩, hs20.ext, ?_⟩
  exact Vr.eq (a := vB) (x := false) rfl (Option.some.inj hm)
 ·
  replace hm := bif_f hm hc19
  refine Wp_skip ?_
  refine Wp_seq ?_
  refine Wp_seq ?_
  refine Wp_region ?_
  refine Rg_op rfl (op_assign (v := (Value.int .i64 0)) rfl ?_)
  refine Rg_nil ?_
  refine Wp_block ?_
  refine Wp_reset [] [(2, (Value.pointer (some ⟨b1, 0, none⟩))), (3, (Value.pointer (some ⟨b6, 0, none⟩))), (5, (Value.int .i64 0))] rfl ⟨rfl, rfl, rfl, trivial⟩ fun ξ23 => ?_
  refine Wp_loopM [4, 5, 6, 7, 15, 16, 17, 18, 19, 20, 21, 22, 23, 24, 25, 26, 27, 28, 29, 30, 31, 32, 33, 34, 35, 36, 37, 38, 39, 40, 41, 42, 43, 44] (fun m fr w' => ∃ (v_1 : Int) (Ebs : Ents), Ebs = [(some b6, Obj.cells [(Value.string (bs c.name)), (Value.slice a_c_names c.names.length c_c_names), (Value.slice a_c_sectors c.sectors.length c_c_sectors)].toArray 52), (some b1, Obj.cells [(Value.slice a_a_volumes a.volumes.length c_a_volumes), (Value.slice a_a_sectors a.sectors.length c_a_sectors), (Value.slice a_a_configs a.configs.length c_a_configs), (Value.slice a_a_segments a.segments.length c_a_segments), (Value.slice a_a_routes a.routes.length c_a_routes), (Value.slice a_a_airports a.airports.length c_a_airports), (Value.slice a_a_classes a.classes.length c_a_classes), (Value.slice a_a_rules a.rules.length c_a_rules)].toArray 31)] ∧ fr [] [(5, (Value.int .i64 v_1))] ∧ Step (ks [(some b6, Obj.cells [(Value.string (bs c.name)), (Value.slice a_c_names c.names.length c_c_names), (Value.slice a_c_sectors c.sectors.length c_c_sectors)].toArray 52), (some b1, Obj.cells [(Value.slice a_a_volumes a.volumes.length c_a_volumes), (Value.slice a_a_sectors a.sectors.length c_a_sectors), (Value.slice a_a_configs a.configs.length c_a_configs), (Value.slice a_a_segments a.segments.length c_a_segments), (Value.slice a_a_routes a.routes.length c_a_routes), (Value.slice a_a_airports a.airports.length c_a_airports), (Value.slice a_a_classes a.classes.length c_a_classes), (Value.slice a_a_rules a.rules.length c_a_rules)].toArray 31)] O) w13 (ks Ebs O) w' ∧ St ⟨w, [], []⟩ O w' Ebs ∧ InK .i64 v_1 ∧ loop1 (m33_overflightref10_divides_B0 a c) m v_1 = some x) (((a.volumes.length : Int) - 0).toNat + 1) ⟨0, _, rfl, ⟨Out.refl _ _, rfl, rfl, trivial⟩, Step.refl _ _, hs16, (show InK .i64 0 from by decide), hm⟩ ?_ ?_
  · rintro _ _ ⟨_, _, _, _, _, _, _, hm⟩; exact loop1_z hm
  ·
   rintro m27 K26 hK26 ρ32 w28 ⟨v_1, Ebs, hEbs, hfr31, hst30, hs29, r_y22, hm⟩
   obtain ⟨sf24, hsf25, hm⟩ := loop1_s hm; unfold m33_overflightref10_divides_B0 at hm
   subst hEbs; rw [hfr31.eq]; clear hfr31
   replace f_a_volumes := f_a_volumes.step hst30; replace f_a_sectors := f_a_sectors.step hst30; replace f_a_configs := f_a_configs.step hst30; replace f_a_segments := f_a_segments.step hst30; replace f_a_routes := f_a_routes.step hst30; replace f_a_airports := f_a_airports.step hst30; replace f_a_classes := f_a_classes.step hst30; replace f_a_rules := f_a_rules.step hst30; replace f_c_names := f_c_names.step hst30; replace f_c_sectors := f_c_sectors.step hst30
   have ch33 := hst30
   refine Wp_seq ?_
   refine Wp_seq ?_
   refine Wp_region ?_
   refine Rg_op rfl (op_move (v := (Value.int .i64 v_1)) rfl ?_)
   refine Rg_op rfl (op_fieldAddr ty31 rfl ty22 (by decide) rfl (rfl : _ = (⟨_, 0, none⟩ : Addr)) ?_)
   refine Rg_op rfl (op_load (cs := [(Value.slice a_a_volumes a.volumes.length c_a_volumes), (Value.slice a_a_sectors a.sectors.length c_a_sectors), (Value.slice a_a_configs a.configs.length c_a_configs), (Value.slice a_a_segments a.segments.length c_a_segments), (Value.slice a_a_routes a.routes.length c_a_routes), (Value.slice a_a_airports a.airports.length c_a_airports), (Value.slice a_a_classes a.classes.length c_a_classes), (Value.slice a_a_rules a.rules.length c_a_rules)]) (i := 1) ty22 hs29 rfl rfl rfl ?_)
   refine Rg_op rfl (op_len Try.underlying22 rfl ?_)
   refine Rg_op rfl (op_lss rfl rfl ?_)
   refine Rg_nil ?_
   refine Wp_cond rfl (fun hc34 => ?_) (fun hc34 => ?_)
   ·
    replace hm := bif_t hm hc34
    refine Wp_skip ?_
    refine Wp_seq ?_
    refine Wp_block ?_
    refine Wp_seq ?_
    refine Wp_region ?_
    refine Rg_op rfl (op_assign (v := (Value.int .i64 0)) rfl ?_)
    refine Rg_nil ?_
    refine Wp_seq ?_
    refine Wp_seq ?_
    refine Wp_region ?_
    refine Rg_op rfl (op_assign (v := (Value.int .i64 0)) rfl ?_)
    refine Rg_nil ?_
    refine Wp_block ?_
    refine Wp_reset2 [4, 5, 6, 7, 15, 16, 17, 18, 19, 20, 21, 22, 23, 24, 25, 26, 27, 28, 29, 30, 31, 32, 33, 34, 35, 36, 37, 38, 39, 40, 41, 42, 43, 44] [] (updL ⟨ξ23, []⟩ [(2, (Value.pointer (some ⟨b1, 0, none⟩))), (3, (Value.pointer (some ⟨b6, 0, none⟩))), (5, (Value.int .i64 0))]) [(5, (Value.int .i64 v_1)), (6, (Value.int .i64 0)), (7, (Value.int .i64 0))] (by repeat (first | with_reducible exact Out.refl _ _ | refine Out.upd ?_ rfl | refine Out.updL ?_ rfl | refine Out.mix' ?_ rfl | exact Out.refl _ _)) rfl ⟨rfl, rfl, rfl, trivial⟩ fun ξ37 => ?_
    refine Wp_loopM [6, 7, 22, 23, 24, 25, 26, 27, 28, 29, 30, 31, 32, 33, 34, 35, 36, 37, 38, 39, 40, 41, 42] (fun m fr w' => ∃ (n_1 : Int) (i_1 : Int) (Ebs : Ents), Ebs = [(some b6, Obj.cells [(Value.string (bs c.name)), (Value.slice a_c_names c.names.length c_c_names), (Value.slice a_c_sectors c.sectors.length c_c_sectors)].toArray 52), (some b1, Obj.cells [(Value.slice a_a_volumes a.volumes.length c_a_volumes), (Value.slice a_a_sectors a.sectors.length c_a_sectors), (Value.slice a_a_configs a.configs.length c_a_configs), (Value.slice a_a_segments a.segments.length c_a_segments), (Value.slice a_a_routes a.routes.length c_a_routes), (Value.slice a_a_airports a.airports.length c_a_airports), (Value.slice a_a_classes a.classes.length c_a_classes), (Value.slice a_a_rules a.rules.length c_a_rules)].toArray 31)] ∧ fr [] [(6, (Value.int .i64 n_1)), (7, (Value.int .i64 i_1))] ∧ Step (ks [(some b6, Obj.cells [(Value.string (bs c.name)), (Value.slice a_c_names c.names.length c_c_names), (Value.slice a_c_sectors c.sectors.length c_c_sectors)].toArray 52), (some b1, Obj.cells [(Value.slice a_a_volumes a.volumes.length c_a_volumes), (Value.slice a_a_sectors a.sectors.length c_a_sectors), (Value.slice a_a_configs a.configs.length c_a_configs), (Value.slice a_a_segments a.segments.length c_a_segments), (Value.slice a_a_routes a.routes.length c_a_routes), (Value.slice a_a_airports a.airports.length c_a_airports), (Value.slice a_a_classes a.classes.length c_a_classes), (Value.slice a_a_rules a.rules.length c_a_rules)].toArray 31)] O) w28 (ks Ebs O) w' ∧ St ⟨w, [], []⟩ O w' Ebs ∧ InK .i64 n_1 ∧ InK .i64 i_1 ∧ loop2 (m33_overflightref10_divides_B1 a c v_1 sf24) m n_1 i_1 = some x) (((c.sectors.length : Int) - 0).toNat + 1) ⟨0, 0, _, rfl, ⟨Out.refl _ _, rfl, rfl, rfl, trivial⟩, Step.refl _ _, hs29, (show InK .i64 0 from by decide), (show InK .i64 0 from by decide), hm⟩ ?_ ?_
    · rintro _ _ ⟨_, _, _, _, _, _, _, _, _, hm⟩; exact loop2_z hm
    ·
     rintro m41 K40 hK40 ρ46 w42 ⟨n_1, i_1, Ebs, hEbs, hfr45, hst44, hs43, r_y35, r_y36, hm⟩
     obtain ⟨sf38, hsf39, hm⟩ := loop2_s hm; unfold m33_overflightref10_divides_B1 at hm
     subst hEbs; rw [hfr45.eq]; clear hfr45
     replace f_a_volumes := f_a_volumes.step hst44; replace f_a_sectors := f_a_sectors.step hst44; replace f_a_configs := f_a_configs.step hst44; replace f_a_segments := f_a_segments.step hst44; replace f_a_routes := f_a_routes.step hst44; replace f_a_airports := f_a_airports.step hst44; replace f_a_classes := f_a_classes.step hst44; replace f_a_rules := f_a_rules.step hst44; replace f_c_names := f_c_names.step hst44; replace f_c_sectors := f_c_sectors.step hst44; replace ch33 := ch33.trans hst44
     have ch47 := hst44
     refine Wp_seq ?_
     refine Wp_seq ?_
     refine Wp_region ?_
     refine Rg_op rfl (op_move (v := (Value.int .i64 i_1)) rfl ?_)
     refine Rg_op rfl (op_fieldAddr ty52 rfl ty39 (by decide) rfl (rfl : _ = (⟨_, 2, none⟩ : Addr)) ?_)
     refine Rg_op rfl (op_load (cs := [(Value.string (bs c.name)), (Value.slice a_c_names c.names.length c_c_names), (Value.slice a_c_sectors c.sectors.length c_c_sectors)]) (i := 0) ty39 hs43 rfl rfl rfl ?_)
     refine Rg_op rfl (op_len Try.underlying39 rfl ?_)
     refine Rg_op rfl (op_lss rfl rfl ?_)
     refine Rg_nil ?_
     refine Wp_cond rfl (fun hc48 => ?_) (fun hc48 => ?_)
     ·
      replace hm := bif_t hm hc48
      refine Wp_skip ?_
      refine Wp_seq ?_
      refine Wp_block ?_
      refine Wp_seq ?_
      refine Wp_drawR (g0 := []) (m := 11) (fl := []) (TS_inv hs43) (.inl rfl) rfl (by decide +kernel) ?_  -- 10
      refine Dw_eq (Value.pointer (some ⟨b1, 1, none⟩)) (fun ρ49 w50 g hle hi ht => ?_) ?_
      ·
       obtain ⟨-, hst, -⟩ := hle
       refine StepOp_plain (op_fieldAddr ty31 rfl ty23 (by decide) (ht 2 rfl) (rfl : _ = (⟨_, 1, none⟩ : Addr)) ?_)
       exact Goes.same hi rfl
      refine Dw_eq (Value.slice a_a_sectors a.sectors.length c_a_sectors) (fun ρ52 w53 g hle hi ht => ?_) ?_
      ·
       obtain ⟨-, hst, -⟩ := hle
       have hsn := (Step.nx hi).1
       refine StepOp_plain (op_load (cs := [(Value.slice a_a_volumes a.volumes.length c_a_volumes), (Value.slice a_a_sectors a.sectors.length c_a_sectors), (Value.slice a_a_configs a.configs.length c_a_configs), (Value.slice a_a_segments a.segments.length c_a_segments), (Value.slice a_a_routes a.routes.length c_a_routes), (Value.slice a_a_airports a.airports.length c_a_airports), (Value.slice a_a_classes a.classes.length c_a_classes), (Value.slice a_a_rules a.rules.length c_a_rules)]) (i := 1) ty23 hsn (ht 29 rfl) rfl rfl ?_)
       exact Goes.same hi rfl
      refine Dw_eq (Value.pointer (some ⟨b6, 2, none⟩)) (fun ρ55 w56 g hle hi ht => ?_) ?_
      ·
       obtain ⟨-, hst, -⟩ := hle
       refine StepOp_plain (op_fieldAddr ty52 rfl ty39 (by decide) (ht 3 rfl) (rfl : _ = (⟨_, 2, none⟩ : Addr)) ?_)
       exact Goes.same hi rfl
      refine Dw_eq (Value.slice a_c_sectors c.sectors.length c_c_sectors) (fun ρ58 w59 g hle hi ht => ?_) ?_
      ·
       obtain ⟨-, hst, -⟩ := hle
       have hsn := (Step.nx hi).1
       refine StepOp_plain (op_load (cs := [(Value.string (bs c.name)), (Value.slice a_c_names c.names.length c_c_names), (Value.slice a_c_sectors c.sectors.length c_c_sectors)]) (i := 0) ty39 hsn (ht 31 rfl) rfl rfl ?_)
       exact Goes.same hi rfl
      refine Dw_eq (Value.int .i64 i_1) (fun ρ61 w62 g hle hi ht => ?_) ?_
      ·
       obtain ⟨-, hst, -⟩ := hle
       refine StepOp_plain (op_move (v := (Value.int .i64 i_1)) (ht 7 rfl) ?_)
       exact Goes.same hi rfl
      replace hm := ck_some hm; obtain ⟨hc67, hm⟩ := hm
      refine Dw_op (VP O [(some b6, Obj.cells [(Value.string (bs c.name)), (Value.slice a_c_names c.names.length c_c_names), (Value.slice a_c_sectors c.sectors.length c_c_sectors)].toArray 52), (some b1, Obj.cells [(Value.slice a_a_volumes a.volumes.length c_a_volumes), (Value.slice a_a_sectors a.sectors.length c_a_sectors), (Value.slice a_a_configs a.configs.length c_a_configs), (Value.slice a_a_segments a.segments.length c_a_segments), (Value.slice a_a_routes a.routes.length c_a_routes), (Value.slice a_a_airports a.airports.length c_a_airports), (Value.slice a_a_classes a.classes.length c_a_classes), (Value.slice a_a_rules a.rules.length c_a_rules)].toArray 31)] (rInt .i64) (c.sectors.getD i_1.toNat default)) (VP.stab _ _) (fun ρ64 w65 g hle hi ht => ?_) ?_
      ·
       obtain ⟨-, hst, -⟩ := hle
       replace f_c_sectors := f_c_sectors.step hst
       refine StepOp_plain (op_indexAddr (q := (rInt .i64)) ty39 ty3 (ht 32 rfl) (ht 33 rfl) f_c_sectors rfl hc67.1 hc67.2 ?_)
       intro p68 f69
       exact Goes.same hi ⟨_, rfl, f69⟩
      refine Dw_op (VD O [(some b6, Obj.cells [(Value.string (bs c.name)), (Value.slice a_c_names c.names.length c_c_names), (Value.slice a_c_sectors c.sectors.length c_c_sectors)].toArray 52), (some b1, Obj.cells [(Value.slice a_a_volumes a.volumes.length c_a_volumes), (Value.slice a_a_sectors a.sectors.length c_a_sectors), (Value.slice a_a_configs a.configs.length c_a_configs), (Value.slice a_a_segments a.segments.length c_a_segments), (Value.slice a_a_routes a.routes.length c_a_routes), (Value.slice a_a_airports a.airports.length c_a_airports), (Value.slice a_a_classes a.classes.length c_a_classes), (Value.slice a_a_rules a.rules.length c_a_rules)].toArray 31)] (vI .i64) (c.sectors.getD i_1.toNat default)) (VD.stab _ _) (fun ρ70 w71 g hle hi ht => ?_) ?_
      ·
       obtain ⟨-, hst, -⟩ := hle
       obtain ⟨p73, q74, f75⟩ := ht 34 rfl
       refine StepOp_plain (op_loadP ty3 q74 f75 rfl ?_)
       intro v76 h77
       obtain ⟨rfl, r_y78⟩ := un_int h77
       exact Goes.same hi (show Vr.vd (vI .i64) _ _ _ _ from ⟨rfl, r_y78⟩)
      replace hm := ck_some hm; obtain ⟨hc85, hm⟩ := hm
      refine Dw_op (VP O [(some b6, Obj.cells [(Value.string (bs c.name)), (Value.slice a_c_names c.names.length c_c_names), (Value.slice a_c_sectors c.sectors.length c_c_sectors)].toArray 52), (some b1, Obj.cells [(Value.slice a_a_volumes a.volumes.length c_a_volumes), (Value.slice a_a_sectors a.sectors.length c_a_sectors), (Value.slice a_a_configs a.configs.length c_a_configs), (Value.slice a_a_segments a.segments.length c_a_segments), (Value.slice a_a_routes a.routes.length c_a_routes), (Value.slice a_a_airports a.airports.length c_a_airports), (Value.slice a_a_classes a.classes.length c_a_classes), (Value.slice a_a_rules a.rules.length c_a_rules)].toArray 31)] rXSector (a.sectors.getD (c.sectors.getD i_1.toNat default).toNat default)) (VP.stab _ _) (fun ρ79 w80 g hle hi ht => ?_) ?_
      ·
       obtain ⟨-, hst, -⟩ := hle
       replace f_a_sectors := f_a_sectors.step hst
       have h82 : Vr.vd (vI .i64) _ _ _ _ := ht 35 rfl
       obtain ⟨q83, r_y84⟩ := h82
       refine StepOp_plain (op_indexAddr (q := rXSector) ty23 ty50 (ht 30 rfl) q83 f_a_sectors rfl hc85.1 hc85.2 ?_)
       intro p86 f87
       exact Goes.same hi ⟨_, rfl, f87⟩
      refine Dw_op (VP O [(some b6, Obj.cells [(Value.string (bs c.name)), (Value.slice a_c_names c.names.length c_c_names), (Value.slice a_c_sectors c.sectors.length c_c_sectors)].toArray 52), (some b1, Obj.cells [(Value.slice a_a_volumes a.volumes.length c_a_volumes), (Value.slice a_a_sectors a.sectors.length c_a_sectors), (Value.slice a_a_configs a.configs.length c_a_configs), (Value.slice a_a_segments a.segments.length c_a_segments), (Value.slice a_a_routes a.routes.length c_a_routes), (Value.slice a_a_airports a.airports.length c_a_airports), (Value.slice a_a_classes a.classes.length c_a_classes), (Value.slice a_a_rules a.rules.length c_a_rules)].toArray 31)] (rSl (rInt .i64)) ((a.sectors.getD (c.sectors.getD i_1.toNat default).toNat default).volumes)) (VP.stab _ _) (fun ρ88 w89 g hle hi ht => ?_) ?_
      ·
       obtain ⟨-, hst, -⟩ := hle
       obtain ⟨p91, q92, f93⟩ := ht 36 rfl
       refine StepOp_plain (op_fieldAddr ty50 rfl ty39 (by decide) q92 rfl ?_)
       have f94 := f93.via.snd.snd.fst
       exact Goes.same hi ⟨_, rfl, f94⟩
      refine Dw_op (VD O [(some b6, Obj.cells [(Value.string (bs c.name)), (Value.slice a_c_names c.names.length c_c_names), (Value.slice a_c_sectors c.sectors.length c_c_sectors)].toArray 52), (some b1, Obj.cells [(Value.slice a_a_volumes a.volumes.length c_a_volumes), (Value.slice a_a_sectors a.sectors.length c_a_sectors), (Value.slice a_a_configs a.configs.length c_a_configs), (Value.slice a_a_segments a.segments.length c_a_segments), (Value.slice a_a_routes a.routes.length c_a_routes), (Value.slice a_a_airports a.airports.length c_a_airports), (Value.slice a_a_classes a.classes.length c_a_classes), (Value.slice a_a_rules a.rules.length c_a_rules)].toArray 31)] (vC (rSl (rInt .i64))) ((a.sectors.getD (c.sectors.getD i_1.toNat default).toNat default).volumes)) (VD.stab _ _) (fun ρ95 w96 g hle hi ht => ?_) ?_
      ·
       obtain ⟨-, hst, -⟩ := hle
       obtain ⟨p98, q99, f100⟩ := ht 37 rfl
       refine StepOp_plain (op_loadP ty39 q99 f100 rfl ?_)
       intro v101 h102
       obtain ⟨a_y103, c_y103, rfl, f_y103⟩ := un_sl h102
       exact Goes.same hi (show Vr.vd (vC (rSl (rInt .i64))) _ _ _ _ from (mkC (mk_sl f_y103)))
      refine Dw_eq (Value.int .i64 v_1) (fun ρ104 w105 g hle hi ht => ?_) ?_
      ·
       obtain ⟨-, hst, -⟩ := hle
       refine StepOp_plain (op_move (v := (Value.int .i64 v_1)) (ht 5 rfl) ?_)
       exact Goes.same hi rfl
      refine Dw_nil fun w111 g112 hl113 hi114 => ?_
      obtain ⟨-, hst115, -⟩ := hl113
      obtain ⟨hs117, p116⟩ := Step.nx hi114
      rintro _ rfl
      rintro v118 h119
      replace h119 : Vr.vd (vC (rSl (rInt .i64))) _ _ _ _ := h119
      obtain ⟨a_y120, c_y120, rfl, f_y120⟩ := un_sl h119
      rintro _ ⟨p121, rfl, f122⟩
      rintro _ ⟨p123, rfl, f124⟩
      rintro v125 h126
      replace h126 : Vr.vd (vI .i64) _ _ _ _ := h126
      obtain ⟨rfl, r_y127⟩ := h126
      rintro _ ⟨p128, rfl, f129⟩
      rintro _ rfl
      rintro _ rfl
      rintro _ rfl
      rintro _ rfl
      rintro _ rfl
      have p130 : Step (ks [(some b6, Obj.cells [(Value.string (bs c.name)), (Value.slice a_c_names c.names.length c_c_names), (Value.slice a_c_sectors c.sectors.length c_c_sectors)].toArray 52), (some b1, Obj.cells [(Value.slice a_a_volumes a.volumes.length c_a_volumes), (Value.slice a_a_sectors a.sectors.length c_a_sectors), (Value.slice a_a_configs a.configs.length c_a_configs), (Value.slice a_a_segments a.segments.length c_a_segments), (Value.slice a_a_routes a.routes.length c_a_routes), (Value.slice a_a_airports a.airports.length c_a_airports), (Value.slice a_a_classes a.classes.length c_a_classes), (Value.slice a_a_rules a.rules.length c_a_rules)].toArray 31)] O) w42 (ks [(some b6, Obj.cells [(Value.string (bs c.name)), (Value.slice a_c_names c.names.length c_c_names), (Value.slice a_c_sectors c.sectors.length c_c_sectors)].toArray 52), (some b1, Obj.cells [(Value.slice a_a_volumes a.volumes.length c_a_volumes), (Value.slice a_a_sectors a.sectors.length c_a_sectors), (Value.slice a_a_configs a.configs.length c_a_configs), (Value.slice a_a_segments a.segments.length c_a_segments), (Value.slice a_a_routes a.routes.length c_a_routes), (Value.slice a_a_airports a.airports.length c_a_airports), (Value.slice a_a_classes a.classes.length c_a_classes), (Value.slice a_a_rules a.rules.length c_a_rules)].toArray 31)] O) w111 := hst115.trans p116
      replace f_y120 := f_y120.step p116; replace f122 := f122.step p116; replace f124 := f124.step p116; replace f129 := f129.step p116; replace f_a_volumes := f_a_volumes.step p130; replace f_a_sectors := f_a_sectors.step p130; replace f_a_configs := f_a_configs.step p130; replace f_a_segments := f_a_segments.step p130; replace f_a_routes := f_a_routes.step p130; replace f_a_airports := f_a_airports.step p130; replace f_a_classes := f_a_classes.step p130; replace f_a_rules := f_a_rules.step p130; replace f_c_names := f_c_names.step p130; replace f_c_sectors := f_c_sectors.step p130; replace ch33 := ch33.trans p130; replace ch47 := ch47.trans p130; clear p130 hs43
      replace hm := bd hm; obtain ⟨has_1, hv131, hm⟩ := hm
      refine Rg_op rfl (op_call Try.call30 (c30_overflightref10_has (l := (a.sectors.getD (c.sectors.getD i_1.toNat default).toNat default).volumes) (n := v_1) hs117.ltw f_y120 r_y22 hv131) rfl ?_)
      rintro v132 w133 ⟨hx134, h135⟩
      have hs136 := hs117.call hx134
      have p137 := Step.ext (O := ks [(some b6, Obj.cells [(Value.string (bs c.name)), (Value.slice a_c_names c.names.length c_c_names), (Value.slice a_c_sectors c.sectors.length c_c_sectors)].toArray 52), (some b1, Obj.cells [(Value.slice a_a_volumes a.volumes.length c_a_volumes), (Value.slice a_a_sectors a.sectors.length c_a_sectors), (Value.slice a_a_configs a.configs.length c_a_configs), (Value.slice a_a_segments a.segments.length c_a_segments), (Value.slice a_a_routes a.routes.length c_a_routes), (Value.slice a_a_airports a.airports.length c_a_airports), (Value.slice a_a_classes a.classes.length c_a_classes), (Value.slice a_a_rules a.rules.length c_a_rules)].toArray 31)] O) hx134
      clear hx134
      replace f_a_volumes := f_a_volumes.step p137; replace f_a_sectors := f_a_sectors.step p137; replace f_a_configs := f_a_configs.step p137; replace f_a_segments := f_a_segments.step p137; replace f_a_routes := f_a_routes.step p137; replace f_a_airports := f_a_airports.step p137; replace f_a_classes := f_a_classes.step p137; replace f_a_rules := f_a_rules.step p137; replace f_c_names := f_c_names.step p137; replace f_c_sectors := f_c_sectors.step p137; replace f_y120 := f_y120.step p137; replace f122 := f122.step p137; replace f124 := f124.step p137; replace f129 := f129.step p137; replace ch33 := ch33.trans p137; replace ch47 := ch47.trans p137; clear p137 hs117
      obtain rfl := h135
      refine Rg_nil ?_
      refine Wp_cond rfl (fun hc139 => ?_) (fun hc139 => ?_)
      ·
       replace hm := bif_t hm hc139
       clear f_y120 f122 f124 f129
       refine Wp_region ?_
       refine Rg_op rfl (op_move (v := (Value.int .i64 n_1)) rfl ?_)
       refine Rg_op rfl (op_addw rfl rfl ?_)
       refine Rg_op rfl (op_assign (v := (Value.int .i64 (IntKind.wrap .i64 (n_1 + 1)))) rfl ?_)
       refine Rg_nil ?_
       refine Wp_region ?_
       refine Rg_op rfl (op_move (v := (Value.int .i64 i_1)) rfl ?_)
       refine Rg_op rfl (op_addw rfl rfl ?_)
       refine Rg_op rfl (op_assign (v := (Value.int .i64 (IntKind.wrap .i64 (i_1 + 1)))) rfl ?_)
       refine Rg_nil ?_
       exact hK40 _ _ ⟨(IntKind.wrap .i64 (n_1 + 1)), (IntKind.wrap .i64 (i_1 + 1)), _, rfl, ⟨(by repeat (first | with_reducible exact Out.refl _ _ | refine Out.upd ?_ rfl | refine Out.updL ?_ rfl | refine Out.mix' ?_ rfl | exact Out.refl _ _)), rfl, rfl, rfl, trivial⟩, ch47, hs136, (inK_wrap .i64 _), (inK_wrap .i64 _), jnE2 hsf39 hm⟩
      ·
       replace hm := bif_f hm hc139
       refine Wp_skip ?_
       clear f_y120 f122 f124 f129
       refine Wp_region ?_
       refine Rg_op rfl (op_move (v := (Value.int .i64 i_1)) rfl ?_)
       refine Rg_op rfl (op_addw rfl rfl ?_)
       refine Rg_op rfl (op_assign (v := (Value.int .i64 (IntKind.wrap .i64 (i_1 + 1)))) rfl ?_)
       refine Rg_nil ?_
       exact hK40 _ _ ⟨n_1, (IntKind.wrap .i64 (i_1 + 1)), _, rfl, ⟨(by repeat (first | with_reducible exact Out.refl _ _ | refine Out.upd ?_ rfl | refine Out.updL ?_ rfl | refine Out.mix' ?_ rfl | exact Out.refl _ _)), rfl, rfl, rfl, trivial⟩, ch47, hs136, r_y35, (inK_wrap .i64 _), jnE2 hsf39 hm⟩
     ·
      replace hm := bif_f hm hc48
      refine Wp_exit ?_
      refine Wp_seq ?_
      refine Wp_region ?_
      refine Rg_op rfl (op_move (v := (Value.int .i64 n_1)) rfl ?_)
      refine Rg_op rfl (op_neq rfl rfl ?_)
      refine Rg_nil ?_
      refine Wp_cond rfl (fun hc140 => ?_) (fun hc140 => ?_)
      ·
       replace hm := bif_t hm hc140
       refine Wp_seq ?_
       refine Wp_region ?_
       refine Rg_op rfl (op_assign (v := (Value.bool false)) rfl ?_)
       refine Rg_nil ?_
       refine Wp_ret ?_
       have hz := step_all hs43
       replace f_a_volumes := f_a_volumes.step hz; replace f_a_sectors := f_a_sectors.step hz; replace f_a_configs := f_a_configs.step hz; replace f_a_segments := f_a_segments.step hz; replace f_a_routes := f_a_routes.step hz; replace f_a_airports := f_a_airports.step hz; replace f_a_classes := f_a_classes.step hz; replace f_a_rules := f_a_rules.step hz; replace f_c_names := f_c_names.step hz; replace f_c_sectors := f_c_sectors.step hz
       refine ⟨_, (show Closes [] _ _ from rfl), [(Value.bool false)], ⟨rfl, trivial⟩, hs43.ext, ?_⟩
       exact Vr.eq (a := vB) (x := false) rfl (Option.some.inj hm)
      ·
       replace hm := bif_f hm hc140
       refine Wp_skip ?_
       refine Wp_region ?_
       refine Rg_op rfl (op_move (v := (Value.int .i64 v_1)) rfl ?_)
       refine Rg_op rfl (op_addw rfl rfl ?_)
       refine Rg_op rfl (op_assign (v := (Value.int .i64 (IntKind.wrap .i64 (v_1 + 1)))) rfl ?_)
       refine Rg_nil ?_
       exact hK26 _ _ ⟨(IntKind.wrap .i64 (v_1 + 1)), _, rfl, ⟨(by repeat (first | with_reducible exact Out.refl _ _ | refine Out.upd ?_ rfl | refine Out.updL ?_ rfl | refine Out.mix' ?_ rfl | exact Out.refl _ _)), rfl, rfl, trivial⟩, ch33, hs43, (inK_wrap .i64 _), jnE1 hsf25 hm⟩
   ·
    replace hm := bif_f hm hc34
    refine Wp_exit ?_
    refine Wp_seq ?_
    obtain ⟨hs141, p142⟩ := hs29.sub (bs' := []) (.cons _ (.cons _ List.Sublist.slnil))
    clear f_a_volumes f_a_sectors f_a_configs f_a_segments f_a_routes f_a_airports f_a_classes f_a_rules f_c_names f_c_sectors
    replace ch33 := ch33.trans p142; clear p142 hs29
    refine Wp_region ?_
    refine Rg_op rfl (op_assign (v := (Value.bool true)) rfl ?_)
    refine Rg_nil ?_
    refine Wp_ret ?_
    have hz := step_all hs141
    refine ⟨_, (show Closes [] _ _ from rfl), [(Value.bool true)], ⟨rfl, trivial⟩, hs141.ext, ?_⟩
    exact Vr.eq (a := vB) (x := true) rfl (Option.some.inj hm)

end Go.Fx



set_option linter.unusedVariables false
set_option linter.unusedSimpArgs false
set_option maxRecDepth 100000
set_option maxHeartbeats 0
namespace Go.Fx
open Go Go.RowKit Go.Proofs
def m16_overflightref10_Check_B1 (a : XAirspace) (sf192 : Int → Option Int) (i_2 : Int) : Option Int :=
 bif (decide (i_2 < (a.configs.length : Int))) then
  ck ((0 : Int) ≤ i_2 ∧ i_2 < (a.configs.length : Int)) <|
  (m33_overflightref10_divides a (a.configs.getD i_2.toNat default)).bind fun divides_1 =>
  bif (!divides_1) then
   some 100
  else
   sf192 (IntKind.wrap .i64 (i_2 + 1))
 else
  some 0

def m16_overflightref10_Check_B0 (a : XAirspace) (sf21 : Int → Option Int) (i_1 : Int) : Option Int :=
 bif (decide (i_1 < (a.sectors.length : Int))) then
  jn (fun (v_2 : Bool) =>
   bif v_2 then
    some 100
   else
    sf21 (IntKind.wrap .i64 (i_1 + 1)))
  (fun k34 =>
   ck ((0 : Int) ≤ i_1 ∧ i_1 < (a.sectors.length : Int)) <|
   bif (decide ((((a.sectors.getD i_1.toNat default).volumes).length : Int) = 0)) then
    k34 true
   else
    ck ((0 : Int) ≤ i_1 ∧ i_1 < (a.sectors.length : Int)) <|
    (m32_overflightref10_indices ((a.sectors.getD i_1.toNat default).volumes) (a.volumes.length : Int)).bind fun indices_1 =>
    k34 (!indices_1))
 else
  loop1 (m16_overflightref10_Check_B1 a) (((a.configs.length : Int) - 0).toNat + 1) 0

def m16_overflightref10_Check (a : XAirspace) : Option Int :=
 jn (fun (v_1 : Bool) =>
  bif v_1 then
   some 100
  else
   loop1 (m16_overflightref10_Check_B0 a) (((a.sectors.length : Int) - 0).toNat + 1) 0)
 (fun k8 =>
  bif (decide ((a.volumes.length : Int) < 1)) then
   k8 true
  else
   bif (decide (64 < (a.volumes.length : Int))) then
    k8 true
   else
    bif (decide (64 < (a.sectors.length : Int))) then
     k8 true
    else
     bif (decide ((a.configs.length : Int) < 1)) then
      k8 true
     else
      k8 (decide (32 < (a.configs.length : Int))))

theorem c16_overflightref10_Check {w : World} {O : List Nat} {a : XAirspace} {a_a_volumes : Option Addr} {c_a_volumes : Nat} {a_a_sectors : Option Addr} {c_a_sectors : Nat} {a_a_configs : Option Addr} {c_a_configs : Nat} {a_a_segments : Option Addr} {c_a_segments : Nat} {a_a_routes : Option Addr} {c_a_routes : Nat} {a_a_airports : Option Addr} {c_a_airports : Nat} {a_a_classes : Option Addr} {c_a_classes : Nat} {a_a_rules : Option Addr} {c_a_rules : Nat} (hO : ∀ k ∈ O, k < w.heap.size) (f_a_volumes : SlR rXVolume w O a_a_volumes c_a_volumes a.volumes) (f_a_sectors : SlR rXSector w O a_a_sectors c_a_sectors a.sectors) (f_a_configs : SlR rXConfig w O a_a_configs c_a_configs a.configs) (f_a_segments : SlR rXSegment w O a_a_segments c_a_segments a.segments) (f_a_routes : SlR rXRoute w O a_a_routes c_a_routes a.routes) (f_a_airports : SlR rXAirport w O a_a_airports c_a_airports a.airports) (f_a_classes : SlR rXClass w O a_a_classes c_a_classes a.classes) (f_a_rules : SlR rXRule w O a_a_rules c_a_rules a.rules) {x : Int} (hm : m16_overflightref10_Check a = some x) :
  Ok Try.prog 16 [(Value.agg [(Value.slice a_a_volumes a.volumes.length c_a_volumes), (Value.slice a_a_sectors a.sectors.length c_a_sectors), (Value.slice a_a_configs a.configs.length c_a_configs), (Value.slice a_a_segments a.segments.length c_a_segments), (Value.slice a_a_routes a.routes.length c_a_routes), (Value.slice a_a_airports a.airports.length c_a_airports), (Value.slice a_a_classes a.classes.length c_a_classes), (Value.slice a_a_rules a.rules.length c_a_rules)].toArray)] w O (vI .i64) x := by
 unfold m16_overflightref10_Check at hm
 refine Fn_of_Wp (n := 76) (xs := [.tmp 2]) Try.func16 rfl Try.ntmps16 Try.results16 rfl ?_
 have hs := St.start hO
 refine Wp_seq ?_
 refine Wp_region ?_
 refine Rg_op rfl (op_box (cs := [(Value.slice a_a_volumes a.volumes.length c_a_volumes), (Value.slice a_a_sectors a.sectors.length c_a_sectors), (Value.slice a_a_configs a.configs.length c_a_configs), (Value.slice a_a_segments a.segments.length c_a_segments), (Value.slice a_a_routes a.routes.length c_a_routes), (Value.slice a_a_airports a.airports.length c_a_airports), (Value.slice a_a_classes a.classes.length c_a_classes), (Value.slice a_a_rules a.rules.length c_a_rules)]) hs rfl rfl ?_)
 intro b1 w2 _ p3 hs4
 replace f_a_volumes := f_a_volumes.step p3; replace f_a_sectors := f_a_sectors.step p3; replace f_a_configs := f_a_configs.step p3; replace f_a_segments := f_a_segments.step p3; replace f_a_routes := f_a_routes.step p3; replace f_a_airports := f_a_airports.step p3; replace f_a_classes := f_a_classes.step p3; replace f_a_rules := f_a_rules.step p3; clear p3
 refine Rg_op rfl (op_assign (v := (Value.int .i64 0)) rfl ?_)
 refine Rg_nil ?_
 refine Wp_seq ?_
 refine Wp_reset [] [(1, (Value.pointer (some ⟨b1, 0, none⟩)))] rfl ⟨rfl, trivial⟩ fun ξ6 => ?_
 replace hm := jn_elim hm; obtain ⟨k8, hk9, hm⟩ := hm
 refine Wp_seqJ [5, 6, 7, 8, 9, 10, 11, 12, 13, 14, 15, 16, 17, 18, 19, 20, 21, 22, 23, 24, 25, 26, 27, 28, 29, 30, 31, 32] (fun fr w' => ∃ (v_1 : Bool) (Ebs : Ents), Ebs = [(some b1, Obj.cells [(Value.slice a_a_volumes a.volumes.length c_a_volumes), (Value.slice a_a_sectors a.sectors.length c_a_sectors), (Value.slice a_a_configs a.configs.length c_a_configs), (Value.slice a_a_segments a.segments.length c_a_segments), (Value.slice a_a_routes a.routes.length c_a_routes), (Value.slice a_a_airports a.airports.length c_a_airports), (Value.slice a_a_classes a.classes.length c_a_classes), (Value.slice a_a_rules a.rules.length c_a_rules)].toArray 31)] ∧ fr [] [(32, (Value.bool v_1))] ∧ Step (ks [(some b1, Obj.cells [(Value.slice a_a_volumes a.volumes.length c_a_volumes), (Value.slice a_a_sectors a.sectors.length c_a_sectors), (Value.slice a_a_configs a.configs.length c_a_configs), (Value.slice a_a_segments a.segments.length c_a_segments), (Value.slice a_a_routes a.routes.length c_a_routes), (Value.slice a_a_airports a.airports.length c_a_airports), (Value.slice a_a_classes a.classes.length c_a_classes), (Value.slice a_a_rules a.rules.length c_a_rules)].toArray 31)] O) w2 (ks Ebs O) w' ∧ St ⟨w, [], []⟩ O w' Ebs ∧ k8 v_1 = some x) ?_ ?_
 ·
  rintro ρ15 w11 ⟨v_1, Ebs, hEbs, hfr14, hst13, hs12, hm⟩
  replace hm := jnE1 hk9 hm
  subst hEbs; rw [hfr14.eq]; clear hfr14
  replace f_a_volumes := f_a_volumes.step hst13; replace f_a_sectors := f_a_sectors.step hst13; replace f_a_configs := f_a_configs.step hst13; replace f_a_segments := f_a_segments.step hst13; replace f_a_routes := f_a_routes.step hst13; replace f_a_airports := f_a_airports.step hst13; replace f_a_classes := f_a_classes.step hst13; replace f_a_rules := f_a_rules.step hst13; clear hst13 hs4
  refine Wp_cond rfl (fun hc16 => ?_) (fun hc16 => ?_)
  ·
   replace hm := bif_t hm hc16
   refine Wp_seq ?_
   obtain ⟨hs17, p18⟩ := hs12.sub (bs' := []) (.cons _ List.Sublist.slnil)
   clear f_a_volumes f_a_sectors f_a_configs f_a_segments f_a_routes f_a_airports f_a_classes f_a_rules
   clear p18 hs12
   refine Wp_region ?_
   refine Rg_op rfl (op_assign (v := (Value.int .i64 100)) rfl ?_)
   refine Rg_nil ?_
   refine Wp_ret ?_
   have hz := step_all hs17
   refine ⟨_, (show Closes [] _ _ from rfl), [(Value.int .i64 100)], ⟨rfl, trivial⟩, hs17.ext, ?_⟩
   exact Vr.eq (a := (vI .i64)) (x := 100) ⟨rfl, (show InK .i64 100 from by decide)⟩ (Option.some.inj hm)
  ·
   replace hm := bif_f hm hc16
   refine Wp_skip ?_
   refine Wp_seq ?_
   refine Wp_seq ?_
   refine Wp_region ?_
   refine Rg_op rfl (op_assign (v := (Value.int .i64 0)) rfl ?_)
   refine Rg_nil ?_
   refine Wp_block ?_
   refine Wp_reset [] [(1, (Value.pointer (some ⟨b1, 0, none⟩))), (3, (Value.int .i64 0))] rfl ⟨rfl, rfl, trivial⟩ fun ξ20 => ?_
   refine Wp_loopM [2, 3, 33, 34, 35, 36, 37, 38, 39, 40, 41, 42, 43, 44, 45, 46, 47, 48, 49, 50, 51, 52, 53, 54, 55, 56, 57, 58, 59, 60] (fun m fr w' => ∃ (i_1 : Int) (Ebs : Ents), Ebs = [(some b1, Obj.cells [(Value.slice a_a_volumes a.volumes.length c_a_volumes), (Value.slice a_a_sectors a.sectors.length c_a_sectors), (Value.slice a_a_configs a.configs.length c_a_configs), (Value.slice a_a_segments a.segments.length c_a_segments), (Value.slice a_a_routes a.routes.length c_a_routes), (Value.slice a_a_airports a.airports.length c_a_airports), (Value.slice a_a_classes a.classes.length c_a_classes), (Value.slice a_a_rules a.rules.length c_a_rules)].toArray 31)] ∧ fr [] [(3, (Value.int .i64 i_1))] ∧ Step (ks [(some b1, Obj.cells [(Value.slice a_a_volumes a.volumes.length c_a_volumes), (Value.slice a_a_sectors a.sectors.length c_a_sectors), (Value.slice a_a_configs a.configs.length c_a_configs), (Value.slice a_a_segments a.segments.length c_a_segments), (Value.slice a_a_routes a.routes.length c_a_routes), (Value.slice a_a_airports a.airports.length c_a_airports), (Value.slice a_a_classes a.classes.length c_a_classes), (Value.slice a_a_rules a.rules.length c_a_rules)].toArray 31)] O) w11 (ks Ebs O) w' ∧ St ⟨w, [], []⟩ O w' Ebs ∧ InK .i64 i_1 ∧ loop1 (m16_overflightref10_Check_B0 a) m i_1 = some x) (((a.sectors.length : Int) - 0).toNat + 1) ⟨0, _, rfl, ⟨Out.refl _ _, rfl, rfl, trivial⟩, Step.refl _ _, hs12, (show InK .i64 0 from by decide), hm⟩ ?_ ?_
   · rintro _ _ ⟨_, _, _, _, _, _, _, hm⟩; exact loop1_z hm
   ·
    rintro m24 K23 hK23 ρ29 w25 ⟨i_1, Ebs, hEbs, hfr28, hst27, hs26, r_y19, hm⟩
    obtain ⟨sf21, hsf22, hm⟩ := loop1_s hm; unfold m16_overflightref10_Check_B0 at hm
    subst hEbs; rw [hfr28.eq]; clear hfr28
    replace f_a_volumes := f_a_volumes.step hst27; replace f_a_sectors := f_a_sectors.step hst27; replace f_a_configs := f_a_configs.step hst27; replace f_a_segments := f_a_segments.step hst27; replace f_a_routes := f_a_routes.step hst27; replace f_a_airports := f_a_airports.step hst27; replace f_a_classes := f_a_classes.step hst27; replace f_a_rules := f_a_rules.step hst27
    have ch30 := hst27
    refine Wp_seq ?_
    refine Wp_seq ?_
    refine Wp_region ?_
    refine Rg_op rfl (op_move (v := (Value.int .i64 i_1)) rfl ?_)
    refine Rg_op rfl (op_fieldAddr ty31 rfl ty23 (by decide) rfl (rfl : _ = (⟨_, 1, none⟩ : Addr)) ?_)
    refine Rg_op rfl (op_load (cs := [(Value.slice a_a_volumes a.volumes.length c_a_volumes), (Value.slice a_a_sectors a.sectors.length c_a_sectors), (Value.slice a_a_configs a.configs.length c_a_configs), (Value.slice a_a_segments a.segments.length c_a_segments), (Value.slice a_a_routes a.routes.length c_a_routes), (Value.slice a_a_airports a.airports.length c_a_airports), (Value.slice a_a_classes a.classes.length c_a_classes), (Value.slice a_a_rules a.rules.length c_a_rules)]) (i := 0) ty23 hs26 rfl rfl rfl ?_)
    refine Rg_op rfl (op_len Try.underlying23 rfl ?_)
    refine Rg_op rfl (op_lss rfl rfl ?_)
    refine Rg_nil ?_
    refine Wp_cond rfl (fun hc31 => ?_) (fun hc31 => ?_)
    ·
     replace hm := bif_t hm hc31
     refine Wp_skip ?_
     refine Wp_seq ?_
     refine Wp_block ?_
     refine Wp_reset2 [2, 3, 33, 34, 35, 36, 37, 38, 39, 40, 41, 42, 43, 44, 45, 46, 47, 48, 49, 50, 51, 52, 53, 54, 55, 56, 57, 58, 59, 60] [] (updL ⟨ξ20, []⟩ [(1, (Value.pointer (some ⟨b1, 0, none⟩))), (3, (Value.int .i64 0))]) [(3, (Value.int .i64 i_1))] (by repeat (first | with_reducible exact Out.refl _ _ | refine Out.upd ?_ rfl | refine Out.updL ?_ rfl | refine Out.mix' ?_ rfl | exact Out.refl _ _)) rfl ⟨rfl, trivial⟩ fun ξ32 => ?_
     replace hm := jn_elim hm; obtain ⟨k34, hk35, hm⟩ := hm
     refine Wp_seqJ [40, 41, 42, 43, 44, 45, 46, 47, 48, 49, 50, 51, 52, 53, 54, 55, 56, 57, 58, 59, 60] (fun fr w' => ∃ (v_2 : Bool) (Ebs : Ents), Ebs = [(some b1, Obj.cells [(Value.slice a_a_volumes a.volumes.length c_a_volumes), (Value.slice a_a_sectors a.sectors.length c_a_sectors), (Value.slice a_a_configs a.configs.length c_a_configs), (Value.slice a_a_segments a.segments.length c_a_segments), (Value.slice a_a_routes a.routes.length c_a_routes), (Value.slice a_a_airports a.airports.length c_a_airports), (Value.slice a_a_classes a.classes.length c_a_classes), (Value.slice a_a_rules a.rules.length c_a_rules)].toArray 31)] ∧ fr [] [(60, (Value.bool v_2))] ∧ Step (ks [(some b1, Obj.cells [(Value.slice a_a_volumes a.volumes.length c_a_volumes), (Value.slice a_a_sectors a.sectors.length c_a_sectors), (Value.slice a_a_configs a.configs.length c_a_configs), (Value.slice a_a_segments a.segments.length c_a_segments), (Value.slice a_a_routes a.routes.length c_a_routes), (Value.slice a_a_airports a.airports.length c_a_airports), (Value.slice a_a_classes a.classes.length c_a_classes), (Value.slice a_a_rules a.rules.length c_a_rules)].toArray 31)] O) w25 (ks Ebs O) w' ∧ St ⟨w, [], []⟩ O w' Ebs ∧ k34 v_2 = some x) ?_ ?_
     ·
      rintro ρ41 w37 ⟨v_2, Ebs, hEbs, hfr40, hst39, hs38, hm⟩
      replace hm := jnE1 hk35 hm
      subst hEbs; rw [hfr40.eq]; clear hfr40
      replace f_a_volumes := f_a_volumes.step hst39; replace f_a_sectors := f_a_sectors.step hst39; replace f_a_configs := f_a_configs.step hst39; replace f_a_segments := f_a_segments.step hst39; replace f_a_routes := f_a_routes.step hst39; replace f_a_airports := f_a_airports.step hst39; replace f_a_classes := f_a_classes.step hst39; replace f_a_rules := f_a_rules.step hst39; replace ch30 := ch30.trans hst39; clear hst39 hs26
      refine Wp_cond rfl (fun hc42 => ?_) (fun hc42 => ?_)
      ·
       replace hm := bif_t hm hc42
       refine Wp_seq ?_
       refine Wp_region ?_
       refine Rg_op rfl (op_assign (v := (Value.int .i64 100)) rfl ?_)
       refine Rg_nil ?_
       refine Wp_ret ?_
       have hz := step_all hs38
       replace f_a_volumes := f_a_volumes.step hz; replace f_a_sectors := f_a_sectors.step hz; replace f_a_configs := f_a_configs.step hz; replace f_a_segments := f_a_segments.step hz; replace f_a_routes := f_a_routes.step hz; replace f_a_airports := f_a_airports.step hz; replace f_a_classes := f_a_classes.step hz; replace f_a_rules := f_a_rules.step hz
       refine ⟨_, (show Closes [] _ _ from rfl), [(Value.int .i64 100)], ⟨rfl, trivial⟩, hs38.ext, ?_⟩
       exact Vr.eq (a := (vI .i64)) (x := 100) ⟨rfl, (show InK .i64 100 from by decide)⟩ (Option.some.inj hm)
      ·
       replace hm := bif_f hm hc42
       refine Wp_skip ?_
       refine Wp_region ?_
       refine Rg_op rfl (op_move (v := (Value.int .i64 i_1)) rfl ?_)
       refine Rg_op rfl (op_addw rfl rfl ?_)
       refine Rg_op rfl (op_assign (v := (Value.int .i64 (IntKind.wrap .i64 (i_1 + 1)))) rfl ?_)
       refine Rg_nil ?_
       exact hK23 _ _ ⟨(IntKind.wrap .i64 (i_1 + 1)), _, rfl, ⟨(by repeat (first | with_reducible exact Out.refl _ _ | refine Out.upd ?_ rfl | refine Out.updL ?_ rfl | refine Out.mix' ?_ rfl | exact Out.refl _ _)), rfl, rfl, trivial⟩, ch30, hs38, (inK_wrap .i64 _), jnE1 hsf22 hm⟩
     ·
      intro K36 hK36
      have ch43 := Step.refl (ks [(some b1, Obj.cells [(Value.slice a_a_volumes a.volumes.length c_a_volumes), (Value.slice a_a_sectors a.sectors.length c_a_sectors), (Value.slice a_a_configs a.configs.length c_a_configs), (Value.slice a_a_segments a.segments.length c_a_segments), (Value.slice a_a_routes a.routes.length c_a_routes), (Value.slice a_a_airports a.airports.length c_a_airports), (Value.slice a_a_classes a.classes.length c_a_classes), (Value.slice a_a_rules a.rules.length c_a_rules)].toArray 31)] O) w25
      refine Wp_drawR (g0 := []) (m := 18) (fl := []) (TS_inv hs26) (.inl rfl) rfl (by decide +kernel) ?_  -- 6
      refine Dw_eq (Value.pointer (some ⟨b1, 1, none⟩)) (fun ρ44 w45 g hle hi ht => ?_) ?_
      ·
       obtain ⟨-, hst, -⟩ := hle
       refine StepOp_plain (op_fieldAddr ty31 rfl ty23 (by decide) (ht 1 rfl) (rfl : _ = (⟨_, 1, none⟩ : Addr)) ?_)
       exact Goes.same hi rfl
      refine Dw_eq (Value.slice a_a_sectors a.sectors.length c_a_sectors) (fun ρ47 w48 g hle hi ht => ?_) ?_
      ·
       obtain ⟨-, hst, -⟩ := hle
       have hsn := (Step.nx hi).1
       refine StepOp_plain (op_load (cs := [(Value.slice a_a_volumes a.volumes.length c_a_volumes), (Value.slice a_a_sectors a.sectors.length c_a_sectors), (Value.slice a_a_configs a.configs.length c_a_configs), (Value.slice a_a_segments a.segments.length c_a_segments), (Value.slice a_a_routes a.routes.length c_a_routes), (Value.slice a_a_airports a.airports.length c_a_airports), (Value.slice a_a_classes a.classes.length c_a_classes), (Value.slice a_a_rules a.rules.length c_a_rules)]) (i := 0) ty23 hsn (ht 40 rfl) rfl rfl ?_)
       exact Goes.same hi rfl
      refine Dw_eq (Value.int .i64 i_1) (fun ρ50 w51 g hle hi ht => ?_) ?_
      ·
       obtain ⟨-, hst, -⟩ := hle
       refine StepOp_plain (op_move (v := (Value.int .i64 i_1)) (ht 3 rfl) ?_)
       exact Goes.same hi rfl
      replace hm := ck_some hm; obtain ⟨hc56, hm⟩ := hm
      refine Dw_op (VP O [(some b1, Obj.cells [(Value.slice a_a_volumes a.volumes.length c_a_volumes), (Value.slice a_a_sectors a.sectors.length c_a_sectors), (Value.slice a_a_configs a.configs.length c_a_configs), (Value.slice a_a_segments a.segments.length c_a_segments), (Value.slice a_a_routes a.routes.length c_a_routes), (Value.slice a_a_airports a.airports.length c_a_airports), (Value.slice a_a_classes a.classes.length c_a_classes), (Value.slice a_a_rules a.rules.length c_a_rules)].toArray 31)] rXSector (a.sectors.getD i_1.toNat default)) (VP.stab _ _) (fun ρ53 w54 g hle hi ht => ?_) ?_
      ·
       obtain ⟨-, hst, -⟩ := hle
       replace f_a_sectors := f_a_sectors.step hst
       refine StepOp_plain (op_indexAddr (q := rXSector) ty23 ty50 (ht 41 rfl) (ht 42 rfl) f_a_sectors rfl hc56.1 hc56.2 ?_)
       intro p57 f58
       exact Goes.same hi ⟨_, rfl, f58⟩
      refine Dw_op (VP O [(some b1, Obj.cells [(Value.slice a_a_volumes a.volumes.length c_a_volumes), (Value.slice a_a_sectors a.sectors.length c_a_sectors), (Value.slice a_a_configs a.configs.length c_a_configs), (Value.slice a_a_segments a.segments.length c_a_segments), (Value.slice a_a_routes a.routes.length c_a_routes), (Value.slice a_a_airports a.airports.length c_a_airports), (Value.slice a_a_classes a.classes.length c_a_classes), (Value.slice a_a_rules a.rules.length c_a_rules)].toArray 31)] (rSl (rInt .i64)) ((a.sectors.getD i_1.toNat default).volumes)) (VP.stab _ _) (fun ρ59 w60 g hle hi ht => ?_) ?_
      ·
       obtain ⟨-, hst, -⟩ := hle
       obtain ⟨p62, q63, f64⟩ := ht 43 rfl
       refine StepOp_plain (op_fieldAddr ty50 rfl ty39 (by decide) q63 rfl ?_)
       have f65 := f64.via.snd.snd.fst
       exact Goes.same hi ⟨_, rfl, f65⟩
      refine Dw_op (VD O [(some b1, Obj.cells [(Value.slice a_a_volumes a.volumes.length c_a_volumes), (Value.slice a_a_sectors a.sectors.length c_a_sectors), (Value.slice a_a_configs a.configs.length c_a_configs), (Value.slice a_a_segments a.segments.length c_a_segments), (Value.slice a_a_routes a.routes.length c_a_routes), (Value.slice a_a_airports a.airports.length c_a_airports), (Value.slice a_a_classes a.classes.length c_a_classes), (Value.slice a_a_rules a.rules.length c_a_rules)].toArray 31)] (vC (rSl (rInt .i64))) ((a.sectors.getD i_1.toNat default).volumes)) (VD.stab _ _) (fun ρ66 w67 g hle hi ht => ?_) ?_
      ·
       obtain ⟨-, hst, -⟩ := hle
       obtain ⟨p69, q70, f71⟩ := ht 44 rfl
       refine StepOp_plain (op_loadP ty39 q70 f71 rfl ?_)
       intro v72 h73
       obtain ⟨a_y74, c_y74, rfl, f_y74⟩ := un_sl h73
       exact Goes.same hi (show Vr.vd (vC (rSl (rInt .i64))) _ _ _ _ from (mkC (mk_sl f_y74)))
      refine Dw_op (VD O [(some b1, Obj.cells [(Value.slice a_a_volumes a.volumes.length c_a_volumes), (Value.slice a_a_sectors a.sectors.length c_a_sectors), (Value.slice a_a_configs a.configs.length c_a_configs), (Value.slice a_a_segments a.segments.length c_a_segments), (Value.slice a_a_routes a.routes.length c_a_routes), (Value.slice a_a_airports a.airports.length c_a_airports), (Value.slice a_a_classes a.classes.length c_a_classes), (Value.slice a_a_rules a.rules.length c_a_rules)].toArray 31)] (vI .i64) (((a.sectors.getD i_1.toNat default).volumes).length : Int)) (VD.stab _ _) (fun ρ75 w76 g hle hi ht => ?_) ?_
      ·
       obtain ⟨-, hst, -⟩ := hle
       have h78 : Vr.vd (vC (rSl (rInt .i64))) _ _ _ _ := ht 45 rfl
       obtain ⟨a_y80, c_y80, q79, f_y80⟩ := un_sl h78
       refine StepOp_plain (op_len Try.underlying39 q79 ?_)
       exact Goes.same hi (show Vr.vd (vI .i64) _ _ _ _ from ⟨rfl, (inK_len f_y80)⟩)
      refine Dw_eq (Value.bool (decide ((((a.sectors.getD i_1.toNat default).volumes).length : Int) = 0))) (fun ρ81 w82 g hle hi ht => ?_) ?_
      ·
       obtain ⟨-, hst, -⟩ := hle
       have h84 : Vr.vd (vI .i64) _ _ _ _ := ht 46 rfl
       obtain ⟨q85, r_y86⟩ := h84
       refine StepOp_plain (op_eql q85 rfl ?_)
       exact Goes.same hi rfl
      refine Dw_opB (decide ((((a.sectors.getD i_1.toNat default).volumes).length : Int) = 0)) (fun ρ87 w88 g hle hi ht => ?_) (fun hg90 => ?_) (fun hg90 => ?_)
      ·
       obtain ⟨-, hst, -⟩ := hle
       refine StepOp_plain (op_move (v := (Value.bool (decide ((((a.sectors.getD i_1.toNat default).volumes).length : Int) = 0)))) (ht 47 rfl) ?_)
       exact Goes.same hi rfl
      ·
       replace hm := bif_t hm hg90
       refine Dw_skip (fun _ _ _ ht => wanted_x rfl (ht 48 rfl) rfl) ?_
       refine Dw_skip (fun _ _ _ ht => wanted_x rfl (ht 48 rfl) rfl) ?_
       refine Dw_skip (fun _ _ _ ht => wanted_x rfl (ht 48 rfl) rfl) ?_
       refine Dw_skip (fun _ _ _ ht => wanted_x rfl (ht 48 rfl) rfl) ?_
       refine Dw_skip (fun _ _ _ ht => wanted_x rfl (ht 48 rfl) rfl) ?_
       refine Dw_skip (fun _ _ _ ht => wanted_x rfl (ht 48 rfl) rfl) ?_
       refine Dw_skip (fun _ _ _ ht => wanted_x rfl (ht 48 rfl) rfl) ?_
       refine Dw_skip (fun _ _ _ ht => wanted_x rfl (ht 48 rfl) rfl) ?_
       refine Dw_skip (fun _ _ _ ht => wanted_x rfl (ht 48 rfl) rfl) ?_
       refine Dw_nil fun w95 g96 hl97 hi98 => ?_
       obtain ⟨-, hst99, -⟩ := hl97
       obtain ⟨hs101, p100⟩ := Step.nx hi98
       rintro _ rfl
       rintro _ rfl
       rintro _ rfl
       rintro _ rfl
       rintro _ rfl
       rintro _ rfl
       rintro _ rfl
       rintro _ rfl
       rintro _ rfl
       rintro _ rfl
       rintro _ rfl
       rintro v102 h103
       replace h103 : Vr.vd (vI .i64) _ _ _ _ := h103
       obtain ⟨rfl, r_y104⟩ := h103
       rintro v105 h106
       replace h106 : Vr.vd (vC (rSl (rInt .i64))) _ _ _ _ := h106
       obtain ⟨a_y107, c_y107, rfl, f_y107⟩ := un_sl h106
       rintro _ ⟨p108, rfl, f109⟩
       rintro _ ⟨p110, rfl, f111⟩
       rintro _ rfl
       rintro _ rfl
       rintro _ rfl
       have p112 : Step (ks [(some b1, Obj.cells [(Value.slice a_a_volumes a.volumes.length c_a_volumes), (Value.slice a_a_sectors a.sectors.length c_a_sectors), (Value.slice a_a_configs a.configs.length c_a_configs), (Value.slice a_a_segments a.segments.length c_a_segments), (Value.slice a_a_routes a.routes.length c_a_routes), (Value.slice a_a_airports a.airports.length c_a_airports), (Value.slice a_a_classes a.classes.length c_a_classes), (Value.slice a_a_rules a.rules.length c_a_rules)].toArray 31)] O) w25 (ks [(some b1, Obj.cells [(Value.slice a_a_volumes a.volumes.length c_a_volumes), (Value.slice a_a_sectors a.sectors.length c_a_sectors), (Value.slice a_a_configs a.configs.length c_a_configs), (Value.slice a_a_segments a.segments.length c_a_segments), (Value.slice a_a_routes a.routes.length c_a_routes), (Value.slice a_a_airports a.airports.length c_a_airports), (Value.slice a_a_classes a.classes.length c_a_classes), (Value.slice a_a_rules a.rules.length c_a_rules)].toArray 31)] O) w95 := hst99.trans p100
       replace f_y107 := f_y107.step p100; replace f109 := f109.step p100; replace f111 := f111.step p100; replace f_a_volumes := f_a_volumes.step p112; replace f_a_sectors := f_a_sectors.step p112; replace f_a_configs := f_a_configs.step p112; replace f_a_segments := f_a_segments.step p112; replace f_a_routes := f_a_routes.step p112; replace f_a_airports := f_a_airports.step p112; replace f_a_classes := f_a_classes.step p112; replace f_a_rules := f_a_rules.step p112; replace ch30 := ch30.trans p112; replace ch43 := ch43.trans p112; clear p112 hs26
       iterate 2 refine Rg_opx rfl (asB_ne rfl rfl) rfl ?_
       refine Rg_op rfl (op_pick_t (v := (Value.bool true)) rfl rfl ?_)
       refine Rg_nil ?_
       exact hK36 _ _ ⟨true, _, rfl, ⟨(by repeat (first | with_reducible exact Out.refl _ _ | refine Out.upd ?_ rfl | refine Out.updL ?_ rfl | refine Out.mix' ?_ rfl | exact Out.refl _ _)), rfl, rfl, trivial⟩, ch43, hs101, hm⟩
      ·
       replace hm := bif_f hm hg90
       refine Dw_eq (Value.pointer (some ⟨b1, 1, none⟩)) (fun ρ113 w114 g hle hi ht => ?_) ?_
       ·
        obtain ⟨-, hst, -⟩ := hle
        refine StepOp_g rfl (ht 48 rfl) (op_fieldAddr ty31 rfl ty23 (by decide) (ht 1 rfl) (rfl : _ = (⟨_, 1, none⟩ : Addr)) ?_)
        exact Goes.same hi rfl
       refine Dw_eq (Value.slice a_a_sectors a.sectors.length c_a_sectors) (fun ρ116 w117 g hle hi ht => ?_) ?_
       ·
        obtain ⟨-, hst, -⟩ := hle
        have hsn := (Step.nx hi).1
        refine StepOp_g rfl (ht 48 rfl) (op_load (cs := [(Value.slice a_a_volumes a.volumes.length c_a_volumes), (Value.slice a_a_sectors a.sectors.length c_a_sectors), (Value.slice a_a_configs a.configs.length c_a_configs), (Value.slice a_a_segments a.segments.length c_a_segments), (Value.slice a_a_routes a.routes.length c_a_routes), (Value.slice a_a_airports a.airports.length c_a_airports), (Value.slice a_a_classes a.classes.length c_a_classes), (Value.slice a_a_rules a.rules.length c_a_rules)]) (i := 0) ty23 hsn (ht 49 rfl) rfl rfl ?_)
        exact Goes.same hi rfl
       refine Dw_eq (Value.int .i64 i_1) (fun ρ119 w120 g hle hi ht => ?_) ?_
       ·
        obtain ⟨-, hst, -⟩ := hle
        refine StepOp_g rfl (ht 48 rfl) (op_move (v := (Value.int .i64 i_1)) (ht 3 rfl) ?_)
        exact Goes.same hi rfl
       replace hm := ck_some hm; obtain ⟨hc125, hm⟩ := hm
       refine Dw_op (VP O [(some b1, Obj.cells [(Value.slice a_a_volumes a.volumes.length c_a_volumes), (Value.slice a_a_sectors a.sectors.length c_a_sectors), (Value.slice a_a_configs a.configs.length c_a_configs), (Value.slice a_a_segments a.segments.length c_a_segments), (Value.slice a_a_routes a.routes.length c_a_routes), (Value.slice a_a_airports a.airports.length c_a_airports), (Value.slice a_a_classes a.classes.length c_a_classes), (Value.slice a_a_rules a.rules.length c_a_rules)].toArray 31)] rXSector (a.sectors.getD i_1.toNat default)) (VP.stab _ _) (fun ρ122 w123 g hle hi ht => ?_) ?_
       ·
        obtain ⟨-, hst, -⟩ := hle
        replace f_a_sectors := f_a_sectors.step hst
        refine StepOp_g rfl (ht 48 rfl) (op_indexAddr (q := rXSector) ty23 ty50 (ht 50 rfl) (ht 51 rfl) f_a_sectors rfl hc125.1 hc125.2 ?_)
        intro p126 f127
        exact Goes.same hi ⟨_, rfl, f127⟩
       refine Dw_op (VP O [(some b1, Obj.cells [(Value.slice a_a_volumes a.volumes.length c_a_volumes), (Value.slice a_a_sectors a.sectors.length c_a_sectors), (Value.slice a_a_configs a.configs.length c_a_configs), (Value.slice a_a_segments a.segments.length c_a_segments), (Value.slice a_a_routes a.routes.length c_a_routes), (Value.slice a_a_airports a.airports.length c_a_airports), (Value.slice a_a_classes a.classes.length c_a_classes), (Value.slice a_a_rules a.rules.length c_a_rules)].toArray 31)] (rSl (rInt .i64)) ((a.sectors.getD i_1.toNat default).volumes)) (VP.stab _ _) (fun ρ128 w129 g hle hi ht => ?_) ?_
       ·
        obtain ⟨-, hst, -⟩ := hle
        obtain ⟨p131, q132, f133⟩ := ht 52 rfl
        refine StepOp_g rfl (ht 48 rfl) (op_fieldAddr ty50 rfl ty39 (by decide) q132 rfl ?_)
        have f134 := f133.via.snd.snd.fst
        exact Goes.same hi ⟨_, rfl, f134⟩
       refine Dw_op (VD O [(some b1, Obj.cells [(Value.slice a_a_volumes a.volumes.length c_a_volumes), (Value.slice a_a_sectors a.sectors.length c_a_sectors), (Value.slice a_a_configs a.configs.length c_a_configs), (Value.slice a_a_segments a.segments.length c_a_segments), (Value.slice a_a_routes a.routes.length c_a_routes), (Value.slice a_a_airports a.airports.length c_a_airports), (Value.slice a_a_classes a.classes.length c_a_classes), (Value.slice a_a_rules a.rules.length c_a_rules)].toArray 31)] (vC (rSl (rInt .i64))) ((a.sectors.getD i_1.toNat default).volumes)) (VD.stab _ _) (fun ρ135 w136 g hle hi ht => ?_) ?_
       ·
        obtain ⟨-, hst, -⟩ := hle
        obtain ⟨p138, q139, f140⟩ := ht 53 rfl
        refine StepOp_g rfl (ht 48 rfl) (op_loadP ty39 q139 f140 rfl ?_)
        intro v141 h142
        obtain ⟨a_y143, c_y143, rfl, f_y143⟩ := un_sl h142
        exact Goes.same hi (show Vr.vd (vC (rSl (rInt .i64))) _ _ _ _ from (mkC (mk_sl f_y143)))
       refine Dw_eq (Value.pointer (some ⟨b1, 0, none⟩)) (fun ρ144 w145 g hle hi ht => ?_) ?_
       ·
        obtain ⟨-, hst, -⟩ := hle
        refine StepOp_g rfl (ht 48 rfl) (op_fieldAddr ty31 rfl ty22 (by decide) (ht 1 rfl) (rfl : _ = (⟨_, 0, none⟩ : Addr)) ?_)
        exact Goes.same hi rfl
       refine Dw_eq (Value.slice a_a_volumes a.volumes.length c_a_volumes) (fun ρ147 w148 g hle hi ht => ?_) ?_
       ·
        obtain ⟨-, hst, -⟩ := hle
        have hsn := (Step.nx hi).1
        refine StepOp_g rfl (ht 48 rfl) (op_load (cs := [(Value.slice a_a_volumes a.volumes.length c_a_volumes), (Value.slice a_a_sectors a.sectors.length c_a_sectors), (Value.slice a_a_configs a.configs.length c_a_configs), (Value.slice a_a_segments a.segments.length c_a_segments), (Value.slice a_a_routes a.routes.length c_a_routes), (Value.slice a_a_airports a.airports.length c_a_airports), (Value.slice a_a_classes a.classes.length c_a_classes), (Value.slice a_a_rules a.rules.length c_a_rules)]) (i := 0) ty22 hsn (ht 55 rfl) rfl rfl ?_)
        exact Goes.same hi rfl
       refine Dw_eq (Value.int .i64 (a.volumes.length : Int)) (fun ρ150 w151 g hle hi ht => ?_) ?_
       ·
        obtain ⟨-, hst, -⟩ := hle
        refine StepOp_g rfl (ht 48 rfl) (op_len Try.underlying22 (ht 56 rfl) ?_)
        exact Goes.same hi rfl
       refine Dw_nil fun w157 g158 hl159 hi160 => ?_
       obtain ⟨-, hst161, -⟩ := hl159
       obtain ⟨hs163, p162⟩ := Step.nx hi160
       rintro _ rfl
       rintro _ rfl
       rintro _ rfl
       rintro v164 h165
       replace h165 : Vr.vd (vC (rSl (rInt .i64))) _ _ _ _ := h165
       obtain ⟨a_y166, c_y166, rfl, f_y166⟩ := un_sl h165
       rintro _ ⟨p167, rfl, f168⟩
       rintro _ ⟨p169, rfl, f170⟩
       rintro _ rfl
       rintro _ rfl
       rintro _ rfl
       rintro _ rfl
       rintro _ rfl
       rintro v171 h172
       replace h172 : Vr.vd (vI .i64) _ _ _ _ := h172
       obtain ⟨rfl, r_y173⟩ := h172
       rintro v174 h175
       replace h175 : Vr.vd (vC (rSl (rInt .i64))) _ _ _ _ := h175
       obtain ⟨a_y176, c_y176, rfl, f_y176⟩ := un_sl h175
       rintro _ ⟨p177, rfl, f178⟩
       rintro _ ⟨p179, rfl, f180⟩
       rintro _ rfl
       rintro _ rfl
       rintro _ rfl
       have p181 : Step (ks [(some b1, Obj.cells [(Value.slice a_a_volumes a.volumes.length c_a_volumes), (Value.slice a_a_sectors a.sectors.length c_a_sectors), (Value.slice a_a_configs a.configs.length c_a_configs), (Value.slice a_a_segments a.segments.length c_a_segments), (Value.slice a_a_routes a.routes.length c_a_routes), (Value.slice a_a_airports a.airports.length c_a_airports), (Value.slice a_a_classes a.classes.length c_a_classes), (Value.slice a_a_rules a.rules.length c_a_rules)].toArray 31)] O) w25 (ks [(some b1, Obj.cells [(Value.slice a_a_volumes a.volumes.length c_a_volumes), (Value.slice a_a_sectors a.sectors.length c_a_sectors), (Value.slice a_a_configs a.configs.length c_a_configs), (Value.slice a_a_segments a.segments.length c_a_segments), (Value.slice a_a_routes a.routes.length c_a_routes), (Value.slice a_a_airports a.airports.length c_a_airports), (Value.slice a_a_classes a.classes.length c_a_classes), (Value.slice a_a_rules a.rules.length c_a_rules)].toArray 31)] O) w157 := hst161.trans p162
       replace f_y166 := f_y166.step p162; replace f168 := f168.step p162; replace f170 := f170.step p162; replace f_y176 := f_y176.step p162; replace f178 := f178.step p162; replace f180 := f180.step p162; replace f_a_volumes := f_a_volumes.step p181; replace f_a_sectors := f_a_sectors.step p181; replace f_a_configs := f_a_configs.step p181; replace f_a_segments := f_a_segments.step p181; replace f_a_routes := f_a_routes.step p181; replace f_a_airports := f_a_airports.step p181; replace f_a_classes := f_a_classes.step p181; replace f_a_rules := f_a_rules.step p181; replace ch30 := ch30.trans p181; replace ch43 := ch43.trans p181; clear p181 hs26
       replace hm := bd hm; obtain ⟨indices_1, hv182, hm⟩ := hm
       refine Rg_opg rfl rfl rfl (op_call Try.call32 (c32_overflightref10_indices (l := (a.sectors.getD i_1.toNat default).volumes) (below := (a.volumes.length : Int)) hs163.ltw f_y166 (inK_len f_a_volumes) hv182) rfl ?_)
       rintro v183 w184 ⟨hx185, h186⟩
       have hs187 := hs163.call hx185
       have p188 := Step.ext (O := ks [(some b1, Obj.cells [(Value.slice a_a_volumes a.volumes.length c_a_volumes), (Value.slice a_a_sectors a.sectors.length c_a_sectors), (Value.slice a_a_configs a.configs.length c_a_configs), (Value.slice a_a_segments a.segments.length c_a_segments), (Value.slice a_a_routes a.routes.length c_a_routes), (Value.slice a_a_airports a.airports.length c_a_airports), (Value.slice a_a_classes a.classes.length c_a_classes), (Value.slice a_a_rules a.rules.length c_a_rules)].toArray 31)] O) hx185
       clear hx185
       replace f_a_volumes := f_a_volumes.step p188; replace f_a_sectors := f_a_sectors.step p188; replace f_a_configs := f_a_configs.step p188; replace f_a_segments := f_a_segments.step p188; replace f_a_routes := f_a_routes.step p188; replace f_a_airports := f_a_airports.step p188; replace f_a_classes := f_a_classes.step p188; replace f_a_rules := f_a_rules.step p188; replace f_y166 := f_y166.step p188; replace f168 := f168.step p188; replace f170 := f170.step p188; replace f_y176 := f_y176.step p188; replace f178 := f178.step p188; replace f180 := f180.step p188; replace ch30 := ch30.trans p188; replace ch43 := ch43.trans p188; clear p188 hs163
       obtain rfl := h186
       refine Rg_opg rfl rfl rfl (op_not rfl ?_)
       refine Rg_op rfl (op_pick_f (v := (Value.bool (!indices_1))) rfl rfl ?_)
       refine Rg_nil ?_
       exact hK36 _ _ ⟨(!indices_1), _, rfl, ⟨(by repeat (first | with_reducible exact Out.refl _ _ | refine Out.upd ?_ rfl | refine Out.updL ?_ rfl | refine Out.mix' ?_ rfl | exact Out.refl _ _)), rfl, rfl, trivial⟩, ch43, hs187, hm⟩
    ·
     replace hm := bif_f hm hc31
     refine Wp_exit ?_
     refine Wp_seq ?_
     refine Wp_seq ?_
     refine Wp_region ?_
     refine Rg_op rfl (op_assign (v := (Value.int .i64 0)) rfl ?_)
     refine Rg_nil ?_
     refine Wp_block ?_
     refine Wp_reset [] [(1, (Value.pointer (some ⟨b1, 0, none⟩))), (4, (Value.int .i64 0))] rfl ⟨rfl, rfl, trivial⟩ fun ξ191 => ?_
     refine Wp_loopM [2, 4, 61, 62, 63, 64, 65, 66, 67, 68, 69, 70, 71, 72, 73, 74, 75] (fun m fr w' => ∃ (i_2 : Int) (Ebs : Ents), Ebs = [(some b1, Obj.cells [(Value.slice a_a_volumes a.volumes.length c_a_volumes), (Value.slice a_a_sectors a.sectors.length c_a_sectors), (Value.slice a_a_configs a.configs.length c_a_configs), (Value.slice a_a_segments a.segments.length c_a_segments), (Value.slice a_a_routes a.routes.length c_a_routes), (Value.slice a_a_airports a.airports.length c_a_airports), (Value.slice a_a_classes a.classes.length c_a_classes), (Value.slice a_a_rules a.rules.length c_a_rules)].toArray 31)] ∧ fr [] [(4, (Value.int .i64 i_2))] ∧ Step (ks [(some b1, Obj.cells [(Value.slice a_a_volumes a.volumes.length c_a_volumes), (Value.slice a_a_sectors a.sectors.length c_a_sectors), (Value.slice a_a_configs a.configs.length c_a_configs), (Value.slice a_a_segments a.segments.length c_a_segments), (Value.slice a_a_routes a.routes.length c_a_routes), (Value.slice a_a_airports a.airports.length c_a_airports), (Value.slice a_a_classes a.classes.length c_a_classes), (Value.slice a_a_rules a.rules.length c_a_rules)].toArray 31)] O) w25 (ks Ebs O) w' ∧ St ⟨w, [], []⟩ O w' Ebs ∧ InK .i64 i_2 ∧ loop1 (m16_overflightref10_Check_B1 a) m i_2 = some x) (((a.configs.length : Int) - 0).toNat + 1) ⟨0, _, rfl, ⟨Out.refl _ _, rfl, rfl, trivial⟩, Step.refl _ _, hs26, (show InK .i64 0 from by decide), hm⟩ ?_ ?_
     · rintro _ _ ⟨_, _, _, _, _, _, _, hm⟩; exact loop1_z hm
     ·
      rintro m195 K194 hK194 ρ200 w196 ⟨i_2, Ebs, hEbs, hfr199, hst198, hs197, r_y190, hm⟩
      obtain ⟨sf192, hsf193, hm⟩ := loop1_s hm; unfold m16_overflightref10_Check_B1 at hm
      subst hEbs; rw [hfr199.eq]; clear hfr199
      replace f_a_volumes := f_a_volumes.step hst198; replace f_a_sectors := f_a_sectors.step hst198; replace f_a_configs := f_a_configs.step hst198; replace f_a_segments := f_a_segments.step hst198; replace f_a_routes := f_a_routes.step hst198; replace f_a_airports := f_a_airports.step hst198; replace f_a_classes := f_a_classes.step hst198; replace f_a_rules := f_a_rules.step hst198; replace ch30 := ch30.trans hst198
      have ch201 := hst198
      refine Wp_seq ?_
      refine Wp_seq ?_
      refine Wp_region ?_
      refine Rg_op rfl (op_move (v := (Value.int .i64 i_2)) rfl ?_)
      refine Rg_op rfl (op_fieldAddr ty31 rfl ty24 (by decide) rfl (rfl : _ = (⟨_, 2, none⟩ : Addr)) ?_)
      refine Rg_op rfl (op_load (cs := [(Value.slice a_a_volumes a.volumes.length c_a_volumes), (Value.slice a_a_sectors a.sectors.length c_a_sectors), (Value.slice a_a_configs a.configs.length c_a_configs), (Value.slice a_a_segments a.segments.length c_a_segments), (Value.slice a_a_routes a.routes.length c_a_routes), (Value.slice a_a_airports a.airports.length c_a_airports), (Value.slice a_a_classes a.classes.length c_a_classes), (Value.slice a_a_rules a.rules.length c_a_rules)]) (i := 0) ty24 hs197 rfl rfl rfl ?_)
      refine Rg_op rfl (op_len Try.underlying24 rfl ?_)
      refine Rg_op rfl (op_lss rfl rfl ?_)
      refine Rg_nil ?_
      refine Wp_cond rfl (fun hc202 => ?_) (fun hc202 => ?_)
      ·
       replace hm := bif_t hm hc202
       refine Wp_skip ?_
       refine Wp_seq ?_
       refine Wp_block ?_
       refine Wp_seq ?_
       refine Wp_drawR (g0 := []) (m := 6) (fl := []) (TS_inv hs197) (.inl rfl) rfl (by decide +kernel) ?_  -- 11
       refine Dw_eq (Value.agg [(Value.slice a_a_volumes a.volumes.length c_a_volumes), (Value.slice a_a_sectors a.sectors.length c_a_sectors), (Value.slice a_a_configs a.configs.length c_a_configs), (Value.slice a_a_segments a.segments.length c_a_segments), (Value.slice a_a_routes a.routes.length c_a_routes), (Value.slice a_a_airports a.airports.length c_a_airports), (Value.slice a_a_classes a.classes.length c_a_classes), (Value.slice a_a_rules a.rules.length c_a_rules)].toArray) (fun ρ203 w204 g hle hi ht => ?_) ?_
       ·
        obtain ⟨-, hst, -⟩ := hle
        have hsn := (Step.nx hi).1
        refine StepOp_plain (op_loadA (cs := [(Value.slice a_a_volumes a.volumes.length c_a_volumes), (Value.slice a_a_sectors a.sectors.length c_a_sectors), (Value.slice a_a_configs a.configs.length c_a_configs), (Value.slice a_a_segments a.segments.length c_a_segments), (Value.slice a_a_routes a.routes.length c_a_routes), (Value.slice a_a_airports a.airports.length c_a_airports), (Value.slice a_a_classes a.classes.length c_a_classes), (Value.slice a_a_rules a.rules.length c_a_rules)]) (vs := [(Value.slice a_a_volumes a.volumes.length c_a_volumes), (Value.slice a_a_sectors a.sectors.length c_a_sectors), (Value.slice a_a_configs a.configs.length c_a_configs), (Value.slice a_a_segments a.segments.length c_a_segments), (Value.slice a_a_routes a.routes.length c_a_routes), (Value.slice a_a_airports a.airports.length c_a_airports), (Value.slice a_a_classes a.classes.length c_a_classes), (Value.slice a_a_rules a.rules.length c_a_rules)]) (i := 0) ty31 hsn (ht 1 rfl) rfl rfl rfl ?_)
        exact Goes.same hi rfl
       refine Dw_eq (Value.pointer (some ⟨b1, 2, none⟩)) (fun ρ206 w207 g hle hi ht => ?_) ?_
       ·
        obtain ⟨-, hst, -⟩ := hle
        refine StepOp_plain (op_fieldAddr ty31 rfl ty24 (by decide) (ht 1 rfl) (rfl : _ = (⟨_, 2, none⟩ : Addr)) ?_)
        exact Goes.same hi rfl
       refine Dw_eq (Value.slice a_a_configs a.configs.length c_a_configs) (fun ρ209 w210 g hle hi ht => ?_) ?_
       ·
        obtain ⟨-, hst, -⟩ := hle
        have hsn := (Step.nx hi).1
        refine StepOp_plain (op_load (cs := [(Value.slice a_a_volumes a.volumes.length c_a_volumes), (Value.slice a_a_sectors a.sectors.length c_a_sectors), (Value.slice a_a_configs a.configs.length c_a_configs), (Value.slice a_a_segments a.segments.length c_a_segments), (Value.slice a_a_routes a.routes.length c_a_routes), (Value.slice a_a_airports a.airports.length c_a_airports), (Value.slice a_a_classes a.classes.length c_a_classes), (Value.slice a_a_rules a.rules.length c_a_rules)]) (i := 0) ty24 hsn (ht 69 rfl) rfl rfl ?_)
        exact Goes.same hi rfl
       refine Dw_eq (Value.int .i64 i_2) (fun ρ212 w213 g hle hi ht => ?_) ?_
       ·
        obtain ⟨-, hst, -⟩ := hle
        refine StepOp_plain (op_move (v := (Value.int .i64 i_2)) (ht 4 rfl) ?_)
        exact Goes.same hi rfl
       replace hm := ck_some hm; obtain ⟨hc218, hm⟩ := hm
       refine Dw_op (VP O [(some b1, Obj.cells [(Value.slice a_a_volumes a.volumes.length c_a_volumes), (Value.slice a_a_sectors a.sectors.length c_a_sectors), (Value.slice a_a_configs a.configs.length c_a_configs), (Value.slice a_a_segments a.segments.length c_a_segments), (Value.slice a_a_routes a.routes.length c_a_routes), (Value.slice a_a_airports a.airports.length c_a_airports), (Value.slice a_a_classes a.classes.length c_a_classes), (Value.slice a_a_rules a.rules.length c_a_rules)].toArray 31)] rXConfig (a.configs.getD i_2.toNat default)) (VP.stab _ _) (fun ρ215 w216 g hle hi ht => ?_) ?_
       ·
        obtain ⟨-, hst, -⟩ := hle
        replace f_a_configs := f_a_configs.step hst
        refine StepOp_plain (op_indexAddr (q := rXConfig) ty24 ty52 (ht 70 rfl) (ht 71 rfl) f_a_configs rfl hc218.1 hc218.2 ?_)
        intro p219 f220
        exact Goes.same hi ⟨_, rfl, f220⟩
       refine Dw_op (VD O [(some b1, Obj.cells [(Value.slice a_a_volumes a.volumes.length c_a_volumes), (Value.slice a_a_sectors a.sectors.length c_a_sectors), (Value.slice a_a_configs a.configs.length c_a_configs), (Value.slice a_a_segments a.segments.length c_a_segments), (Value.slice a_a_routes a.routes.length c_a_routes), (Value.slice a_a_airports a.airports.length c_a_airports), (Value.slice a_a_classes a.classes.length c_a_classes), (Value.slice a_a_rules a.rules.length c_a_rules)].toArray 31)] (vA rXConfig) (a.configs.getD i_2.toNat default)) (VD.stab _ _) (fun ρ221 w222 g hle hi ht => ?_) ?_
       ·
        obtain ⟨-, hst, -⟩ := hle
        obtain ⟨p224, q225, f226⟩ := ht 72 rfl
        refine StepOp_plain (op_loadPA ty52 q225 f226 rfl ?_)
        intro vs227 h228
        obtain ⟨_, _, rfl, rfl, ⟨_, _, rfl, ⟨a_y229_names, c_y229_names, rfl, f_y229_names⟩, ⟨a_y229_sectors, c_y229_sectors, rfl, f_y229_sectors⟩⟩⟩ := h228
        exact Goes.same hi (show Vr.vd (vA rXConfig) _ _ _ _ from (mkA (mkVia (mk_pair mkStr (mk_pair (mk_sl f_y229_names) (mk_sl f_y229_sectors))))))
       refine Dw_nil fun w234 g235 hl236 hi237 => ?_
       obtain ⟨-, hst238, -⟩ := hl236
       obtain ⟨hs240, p239⟩ := Step.nx hi237
       rintro v241 h242
       replace h242 : Vr.vd (vA rXConfig) _ _ _ _ := h242
       obtain ⟨_, rfl, ⟨_, _, rfl, rfl, ⟨_, _, rfl, ⟨a_y243_names, c_y243_names, rfl, f_y243_names⟩, ⟨a_y243_sectors, c_y243_sectors, rfl, f_y243_sectors⟩⟩⟩⟩ := h242
       rintro _ ⟨p244, rfl, f245⟩
       rintro _ rfl
       rintro _ rfl
       rintro _ rfl
       rintro _ rfl
       have p246 : Step (ks [(some b1, Obj.cells [(Value.slice a_a_volumes a.volumes.length c_a_volumes), (Value.slice a_a_sectors a.sectors.length c_a_sectors), (Value.slice a_a_configs a.configs.length c_a_configs), (Value.slice a_a_segments a.segments.length c_a_segments), (Value.slice a_a_routes a.routes.length c_a_routes), (Value.slice a_a_airports a.airports.length c_a_airports), (Value.slice a_a_classes a.classes.length c_a_classes), (Value.slice a_a_rules a.rules.length c_a_rules)].toArray 31)] O) w196 (ks [(some b1, Obj.cells [(Value.slice a_a_volumes a.volumes.length c_a_volumes), (Value.slice a_a_sectors a.sectors.length c_a_sectors), (Value.slice a_a_configs a.configs.length c_a_configs), (Value.slice a_a_segments a.segments.length c_a_segments), (Value.slice a_a_routes a.routes.length c_a_routes), (Value.slice a_a_airports a.airports.length c_a_airports), (Value.slice a_a_classes a.classes.length c_a_classes), (Value.slice a_a_rules a.rules.length c_a_rules)].toArray 31)] O) w234 := hst238.trans p239
       replace f_y243_names := f_y243_names.step p239; replace f_y243_sectors := f_y243_sectors.step p239; replace f245 := f245.step p239; replace f_a_volumes := f_a_volumes.step p246; replace f_a_sectors := f_a_sectors.step p246; replace f_a_configs := f_a_configs.step p246; replace f_a_segments := f_a_segments.step p246; replace f_a_routes := f_a_routes.step p246; replace f_a_airports := f_a_airports.step p246; replace f_a_classes := f_a_classes.step p246; replace f_a_rules := f_a_rules.step p246; replace ch30 := ch30.trans p246; replace ch201 := ch201.trans p246; clear p246 hs197
       replace hm := bd hm; obtain ⟨divides_1, hv247, hm⟩ := hm
       refine Rg_op rfl (op_call Try.call33 (c33_overflightref10_divides (a := a) (c := (a.configs.getD i_2.toNat default)) hs240.ltw f_a_volumes f_a_sectors f_a_configs f_a_segments f_a_routes f_a_airports f_a_classes f_a_rules f_y243_names f_y243_sectors hv247) rfl ?_)
       rintro v248 w249 ⟨hx250, h251⟩
       have hs252 := hs240.call hx250
       have p253 := Step.ext (O := ks [(some b1, Obj.cells [(Value.slice a_a_volumes a.volumes.length c_a_volumes), (Value.slice a_a_sectors a.sectors.length c_a_sectors), (Value.slice a_a_configs a.configs.length c_a_configs), (Value.slice a_a_segments a.segments.length c_a_segments), (Value.slice a_a_routes a.routes.length c_a_routes), (Value.slice a_a_airports a.airports.length c_a_airports), (Value.slice a_a_classes a.classes.length c_a_classes), (Value.slice a_a_rules a.rules.length c_a_rules)].toArray 31)] O) hx250
       clear hx250
       replace f_a_volumes := f_a_volumes.step p253; replace f_a_sectors := f_a_sectors.step p253; replace f_a_configs := f_a_configs.step p253; replace f_a_segments := f_a_segments.step p253; replace f_a_routes := f_a_routes.step p253; replace f_a_airports := f_a_airports.step p253; replace f_a_classes := f_a_classes.step p253; replace f_a_rules := f_a_rules.step p253; replace f_y243_names := f_y243_names.step p253; replace f_y243_sectors := f_y243_sectors.step p253; replace f245 := f245.step p253; replace ch30 := ch30.trans p253; replace ch201 := ch201.trans p253; clear p253 hs240
       obtain rfl := h251
       refine Rg_op rfl (op_not rfl ?_)
       refine Rg_nil ?_
       refine Wp_cond rfl (fun hc255 => ?_) (fun hc255 => ?_)
       ·
        replace hm := bif_t hm hc255
        refine Wp_seq ?_
        clear f_y243_names f_y243_sectors f245
        refine Wp_region ?_
        refine Rg_op rfl (op_assign (v := (Value.int .i64 100)) rfl ?_)
        refine Rg_nil ?_
        refine Wp_ret ?_
        have hz := step_all hs252
        replace f_a_volumes := f_a_volumes.step hz; replace f_a_sectors := f_a_sectors.step hz; replace f_a_configs := f_a_configs.step hz; replace f_a_segments := f_a_segments.step hz; replace f_a_routes := f_a_routes.step hz; replace f_a_airports := f_a_airports.step hz; replace f_a_classes := f_a_classes.step hz; replace f_a_rules := f_a_rules.step hz
        refine ⟨_, (show Closes [] _ _ from rfl), [(Value.int .i64 100)], ⟨rfl, trivial⟩, hs252.ext, ?_⟩
        exact Vr.eq (a := (vI .i64)) (x := 100) ⟨rfl, (show InK .i64 100 from by decide)⟩ (Option.some.inj hm)
       ·
        replace hm := bif_f hm hc255
        refine Wp_skip ?_
        clear f_y243_names f_y243_sectors f245
        refine Wp_region ?_
        refine Rg_op rfl (op_move (v := (Value.int .i64 i_2)) rfl ?_)
        refine Rg_op rfl (op_addw rfl rfl ?_)
        refine Rg_op rfl (op_assign (v := (Value.int .i64 (IntKind.wrap .i64 (i_2 + 1)))) rfl ?_)
        refine Rg_nil ?_
        exact hK194 _ _ ⟨(IntKind.wrap .i64 (i_2 + 1)), _, rfl, ⟨(by repeat (first | with_reducible exact Out.refl _ _ | refine Out.upd ?_ rfl | refine Out.updL ?_ rfl | refine Out.mix' ?_ rfl | exact Out.refl _ _)), rfl, rfl, trivial⟩, ch201, hs252, (inK_wrap .i64 _), jnE1 hsf193 hm⟩
      ·
       replace hm := bif_f hm hc202
       refine Wp_exit ?_
       refine Wp_seq ?_
       obtain ⟨hs256, p257⟩ := hs197.sub (bs' := []) (.cons _ List.Sublist.slnil)
       clear f_a_volumes f_a_sectors f_a_configs f_a_segments f_a_routes f_a_airports f_a_classes f_a_rules
       replace ch30 := ch30.trans p257; replace ch201 := ch201.trans p257; clear p257 hs197
       refine Wp_region ?_
       refine Rg_op rfl (op_assign (v := (Value.int .i64 0)) rfl ?_)
       refine Rg_nil ?_
       refine Wp_ret ?_
       have hz := step_all hs256
       refine ⟨_, (show Closes [] _ _ from rfl), [(Value.int .i64 0)], ⟨rfl, trivial⟩, hs256.ext, ?_⟩
       exact Vr.eq (a := (vI .i64)) (x := 0) ⟨rfl, (show InK .i64 0 from by decide)⟩ (Option.some.inj hm)
 ·
  intro K10 hK10
  have ch258 := Step.refl (ks [(some b1, Obj.cells [(Value.slice a_a_volumes a.volumes.length c_a_volumes), (Value.slice a_a_sectors a.sectors.length c_a_sectors), (Value.slice a_a_configs a.configs.length c_a_configs), (Value.slice a_a_segments a.segments.length c_a_segments), (Value.slice a_a_routes a.routes.length c_a_routes), (Value.slice a_a_airports a.airports.length c_a_airports), (Value.slice a_a_classes a.classes.length c_a_classes), (Value.slice a_a_rules a.rules.length c_a_rules)].toArray 31)] O) w2
  refine Wp_region ?_
  refine Rg_op rfl (op_fieldAddr ty31 rfl ty22 (by decide) rfl (rfl : _ = (⟨_, 0, none⟩ : Addr)) ?_)
  refine Rg_op rfl (op_load (cs := [(Value.slice a_a_volumes a.volumes.length c_a_volumes), (Value.slice a_a_sectors a.sectors.length c_a_sectors), (Value.slice a_a_configs a.configs.length c_a_configs), (Value.slice a_a_segments a.segments.length c_a_segments), (Value.slice a_a_routes a.routes.length c_a_routes), (Value.slice a_a_airports a.airports.length c_a_airports), (Value.slice a_a_classes a.classes.length c_a_classes), (Value.slice a_a_rules a.rules.length c_a_rules)]) (i := 0) ty22 hs4 rfl rfl rfl ?_)
  refine Rg_op rfl (op_len Try.underlying22 rfl ?_)
  refine Rg_op rfl (op_lss rfl rfl ?_)
  refine Rg_op rfl (op_move (v := (Value.bool (decide ((a.volumes.length : Int) < 1)))) rfl ?_)
  refine Rg_case (fun hg259 => ?_) (fun hg259 => ?_)
  ·
   replace hm := bif_t hm hg259
   iterate 4 refine Rg_opx rfl (asB_ne rfl rfl) rfl ?_
   refine Rg_op rfl (op_pick_t (v := (Value.bool true)) rfl rfl ?_)
   refine Rg_op rfl (op_move (v := (Value.bool true)) rfl ?_)
   iterate 4 refine Rg_opx rfl (asB_ne rfl rfl) rfl ?_
   refine Rg_op rfl (op_pick_t (v := (Value.bool true)) rfl rfl ?_)
   refine Rg_op rfl (op_move (v := (Value.bool true)) rfl ?_)
   iterate 4 refine Rg_opx rfl (asB_ne rfl rfl) rfl ?_
   refine Rg_op rfl (op_pick_t (v := (Value.bool true)) rfl rfl ?_)
   refine Rg_op rfl (op_move (v := (Value.bool true)) rfl ?_)
   iterate 4 refine Rg_opx rfl (asB_ne rfl rfl) rfl ?_
   refine Rg_op rfl (op_pick_t (v := (Value.bool true)) rfl rfl ?_)
   refine Rg_nil ?_
   exact hK10 _ _ ⟨true, _, rfl, ⟨(by repeat (first | with_reducible exact Out.refl _ _ | refine Out.upd ?_ rfl | refine Out.updL ?_ rfl | refine Out.mix' ?_ rfl | exact Out.refl _ _)), rfl, rfl, trivial⟩, ch258, hs4, hm⟩
  ·
   replace hm := bif_f hm hg259
   refine Rg_opg rfl rfl rfl (op_fieldAddr ty31 rfl ty22 (by decide) rfl (rfl : _ = (⟨_, 0, none⟩ : Addr)) ?_)
   refine Rg_opg rfl rfl rfl (op_load (cs := [(Value.slice a_a_volumes a.volumes.length c_a_volumes), (Value.slice a_a_sectors a.sectors.length c_a_sectors), (Value.slice a_a_configs a.configs.length c_a_configs), (Value.slice a_a_segments a.segments.length c_a_segments), (Value.slice a_a_routes a.routes.length c_a_routes), (Value.slice a_a_airports a.airports.length c_a_airports), (Value.slice a_a_classes a.classes.length c_a_classes), (Value.slice a_a_rules a.rules.length c_a_rules)]) (i := 0) ty22 hs4 rfl rfl rfl ?_)
   refine Rg_opg rfl rfl rfl (op_len Try.underlying22 rfl ?_)
   refine Rg_opg rfl rfl rfl (op_gtr rfl rfl ?_)
   refine Rg_op rfl (op_pick_f (v := (Value.bool (decide (64 < (a.volumes.length : Int))))) rfl rfl ?_)
   refine Rg_op rfl (op_move (v := (Value.bool (decide (64 < (a.volumes.length : Int))))) rfl ?_)
   refine Rg_case (fun hg260 => ?_) (fun hg260 => ?_)
   ·
    replace hm := bif_t hm hg260
    iterate 4 refine Rg_opx rfl (asB_ne rfl rfl) rfl ?_
    refine Rg_op rfl (op_pick_t (v := (Value.bool true)) rfl rfl ?_)
    refine Rg_op rfl (op_move (v := (Value.bool true)) rfl ?_)
    iterate 4 refine Rg_opx rfl (asB_ne rfl rfl) rfl ?_
    refine Rg_op rfl (op_pick_t (v := (Value.bool true)) rfl rfl ?_)
    refine Rg_op rfl (op_move (v := (Value.bool true)) rfl ?_)
    iterate 4 refine Rg_opx rfl (asB_ne rfl rfl) rfl ?_
    refine Rg_op rfl (op_pick_t (v := (Value.bool true)) rfl rfl ?_)
    refine Rg_nil ?_
    exact hK10 _ _ ⟨true, _, rfl, ⟨(by repeat (first | with_reducible exact Out.refl _ _ | refine Out.upd ?_ rfl | refine Out.updL ?_ rfl | refine Out.mix' ?_ rfl | exact Out.refl _ _)), rfl, rfl, trivial⟩, ch258, hs4, hm⟩
   ·
    replace hm := bif_f hm hg260
    refine Rg_opg rfl rfl rfl (op_fieldAddr ty31 rfl ty23 (by decide) rfl (rfl : _ = (⟨_, 1, none⟩ : Addr)) ?_)
    refine Rg_opg rfl rfl rfl (op_load (cs := [(Value.slice a_a_volumes a.volumes.length c_a_volumes), (Value.slice a_a_sectors a.sectors.length c_a_sectors), (Value.slice a_a_configs a.configs.length c_a_configs), (Value.slice a_a_segments a.segments.length c_a_segments), (Value.slice a_a_routes a.routes.length c_a_routes), (Value.slice a_a_airports a.airports.length c_a_airports), (Value.slice a_a_classes a.classes.length c_a_classes), (Value.slice a_a_rules a.rules.length c_a_rules)]) (i := 0) ty23 hs4 rfl rfl rfl ?_)
    refine Rg_opg rfl rfl rfl (op_len Try.underlying23 rfl ?_)
    refine Rg_opg rfl rfl rfl (op_gtr rfl rfl ?_)
    refine Rg_op rfl (op_pick_f (v := (Value.bool (decide (64 < (a.sectors.length : Int))))) rfl rfl ?_)
    refine Rg_op rfl (op_move (v := (Value.bool (decide (64 < (a.sectors.length : Int))))) rfl ?_)
    refine Rg_case (fun hg261 => ?_) (fun hg261 => ?_)
    ·
     replace hm := bif_t hm hg261
     iterate 4 refine Rg_opx rfl (asB_ne rfl rfl) rfl ?_
     refine Rg_op rfl (op_pick_t (v := (Value.bool true)) rfl rfl ?_)
     refine Rg_op rfl (op_move (v := (Value.bool true)) rfl ?_)
     iterate 4 refine Rg_opx rfl (asB_ne rfl rfl) rfl ?_
     refine Rg_op rfl (op_pick_t (v := (Value.bool true)) rfl rfl ?_)
     refine Rg_nil ?_
     exact hK10 _ _ ⟨true, _, rfl, ⟨(by repeat (first | with_reducible exact Out.refl _ _ | refine Out.upd ?_ rfl | refine Out.updL ?_ rfl | refine Out.mix' ?_ rfl | exact Out.refl _ _)), rfl, rfl, trivial⟩, ch258, hs4, hm⟩
    ·
     replace hm := bif_f hm hg261
     refine Rg_opg rfl rfl rfl (op_fieldAddr ty31 rfl ty24 (by decide) rfl (rfl : _ = (⟨_, 2, none⟩ : Addr)) ?_)
     refine Rg_opg rfl rfl rfl (op_load (cs := [(Value.slice a_a_volumes a.volumes.length c_a_volumes), (Value.slice a_a_sectors a.sectors.length c_a_sectors), (Value.slice a_a_configs a.configs.length c_a_configs), (Value.slice a_a_segments a.segments.length c_a_segments), (Value.slice a_a_routes a.routes.length c_a_routes), (Value.slice a_a_airports a.airports.length c_a_airports), (Value.slice a_a_classes a.classes.length c_a_classes), (Value.slice a_a_rules a.rules.length c_a_rules)]) (i := 0) ty24 hs4 rfl rfl rfl ?_)
     refine Rg_opg rfl rfl rfl (op_len Try.underlying24 rfl ?_)
     refine Rg_opg rfl rfl rfl (op_lss rfl rfl ?_)
     refine Rg_op rfl (op_pick_f (v := (Value.bool (decide ((a.configs.length : Int) < 1)))) rfl rfl ?_)
     refine Rg_op rfl (op_move (v := (Value.bool (decide ((a.configs.length : Int) < 1)))) rfl ?_)
     refine Rg_case (fun hg262 => ?_) (fun hg262 => ?_)
     ·
      replace hm := bif_t hm hg262
      iterate 4 refine Rg_opx rfl (asB_ne rfl rfl) rfl ?_
      refine Rg_op rfl (op_pick_t (v := (Value.bool true)) rfl rfl ?_)
      refine Rg_nil ?_
      exact hK10 _ _ ⟨true, _, rfl, ⟨(by repeat (first | with_reducible exact Out.refl _ _ | refine Out.upd ?_ rfl | refine Out.updL ?_ rfl | refine Out.mix' ?_ rfl | exact Out.refl _ _)), rfl, rfl, trivial⟩, ch258, hs4, hm⟩
     ·
      replace hm := bif_f hm hg262
      refine Rg_opg rfl rfl rfl (op_fieldAddr ty31 rfl ty24 (by decide) rfl (rfl : _ = (⟨_, 2, none⟩ : Addr)) ?_)
      refine Rg_opg rfl rfl rfl (op_load (cs := [(Value.slice a_a_volumes a.volumes.length c_a_volumes), (Value.slice a_a_sectors a.sectors.length c_a_sectors), (Value.slice a_a_configs a.configs.length c_a_configs), (Value.slice a_a_segments a.segments.length c_a_segments), (Value.slice a_a_routes a.routes.length c_a_routes), (Value.slice a_a_airports a.airports.length c_a_airports), (Value.slice a_a_classes a.classes.length c_a_classes), (Value.slice a_a_rules a.rules.length c_a_rules)]) (i := 0) ty24 hs4 rfl rfl rfl ?_)
      refine Rg_opg rfl rfl rfl (op_len Try.underlying24 rfl ?_)
      refine Rg_opg rfl rfl rfl (op_gtr rfl rfl ?_)
      refine Rg_op rfl (op_pick_f (v := (Value.bool (decide (32 < (a.configs.length : Int))))) rfl rfl ?_)
      refine Rg_nil ?_
      exact hK10 _ _ ⟨(decide (32 < (a.configs.length : Int))), _, rfl, ⟨(by repeat (first | with_reducible exact Out.refl _ _ | refine Out.upd ?_ rfl | refine Out.updL ?_ rfl | refine Out.mix' ?_ rfl | exact Out.refl _ _)), rfl, rfl, trivial⟩, ch258, hs4, hm⟩

end Go.Fx


