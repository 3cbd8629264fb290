/- Part 4 of the proof: stuck names the first pair without a path, for every airspace. -/
import Derived.Test.YtolafciahogceaaStuck3
import Derived.Laws.Bits64b
set_option linter.unusedVariables false
set_option linter.unusedSimpArgs false
set_option maxRecDepth 100000
set_option maxHeartbeats 0
namespace Go.Fx
open Go Go.RowKit Go.Proofs
def m11_overflightlaw10_sane : Option Bool :=
 (m28_overflightlaw10_example).bind fun example_1 =>
 (m17_configs_Reach example_1 0).bind fun reach_1 =>
 (m22_configs_Path example_1 0 1).bind fun path_1 =>
 (m22_configs_Path example_1 1 1).bind fun path_2 =>
 (m24_configs_Stuck example_1).bind fun stuck_1 =>
 ck ((0 : Int) ≤ (2 : Int) ∧ (2 : Int) ≤ (example_1.configs.length : Int)) <|
 (m24_configs_Stuck (⟨example_1.volumes, example_1.sectors, ((example_1.configs.drop 0).take (2 - 0)), example_1.segments, example_1.routes, example_1.airports, example_1.classes, example_1.rules⟩ : XAirspace)).bind fun stuck_2 =>
 (m17_configs_Reach (⟨example_1.volumes, example_1.sectors, ((example_1.configs.drop 0).take (2 - 0)), example_1.segments, example_1.routes, example_1.airports, example_1.classes, example_1.rules⟩ : XAirspace) 1).bind fun reach_2 =>
 (m13_configs_Sector example_1 2 0).bind fun sector_1 =>
 (m13_configs_Sector (⟨([] : List XVolume), ([] : List XSector), ([] : List XConfig), ([] : List XSegment), ([] : List XRoute), ([] : List XAirport), ([] : List XClass), ([] : List XRule)⟩ : XAirspace) 0 0).bind fun sector_2 =>
 jn (fun (good_1 : Bool) =>
  jn (fun (v_1 : Bool) =>
   some v_1)
  (fun k169 =>
   bif good_1 then
    bif (decide (stuck_2.2.2.2 = 0)) then
     bif stuck_2.2.2.1 then
      bif (decide (stuck_2.1 = 0)) then
       bif (decide (stuck_2.2.1 = 1)) then
        bif (decide (reach_2.2 = 0)) then
         (m21_overflightref10_SameInts reach_2.1 [1]).bind fun sameints_1 =>
         bif sameints_1 then
          bif sector_1.2 then
           bif (decide (sector_1.1 = 3)) then
            bif (!sector_2.2) then
             (m15_configs_Check example_1).bind fun check_1 =>
             bif (decide (check_1 = 0)) then
              (m15_configs_Check (⟨([] : List XVolume), ([] : List XSector), ([] : List XConfig), ([] : List XSegment), ([] : List XRoute), ([] : List XAirport), ([] : List XClass), ([] : List XRule)⟩ : XAirspace)).bind fun check_2 =>
              bif (decide (check_2 = 100)) then
               (m19_configs_Step example_1 0 2).bind fun step_1 =>
               bif step_1 then
                (m19_configs_Step example_1 0 1).bind fun step_2 =>
                bif (!step_2) then
                 (m19_configs_Step example_1 0 0).bind fun step_3 =>
                 k169 (!step_3)
                else
                 k169 false
               else
                k169 false
              else
               k169 false
             else
              k169 false
            else
             k169 false
           else
            k169 false
          else
           k169 false
         else
          k169 false
        else
         k169 false
       else
        k169 false
      else
       k169 false
     else
      k169 false
    else
     k169 false
   else
    k169 false))
 (fun k159 =>
  bif (decide (reach_1.2 = 0)) then
   (m21_overflightref10_SameInts reach_1.1 [0, 1, 2]).bind fun sameints_2 =>
   bif sameints_2 then
    bif (decide (path_1.2.2 = 0)) then
     bif path_1.2.1 then
      (m21_overflightref10_SameInts path_1.1 [0, 2, 1]).bind fun sameints_3 =>
      bif sameints_3 then
       bif (decide (path_2.2.2 = 0)) then
        bif path_2.2.1 then
         (m21_overflightref10_SameInts path_2.1 [1]).bind fun sameints_4 =>
         bif sameints_4 then
          bif (decide (stuck_1.2.2.2 = 0)) then
           bif (!stuck_1.2.2.1) then
            bif (decide (stuck_1.1 = 0)) then
             k159 (decide (stuck_1.2.1 = 0))
            else
             k159 false
           else
            k159 false
          else
           k159 false
         else
          k159 false
        else
         k159 false
       else
        k159 false
      else
       k159 false
     else
      k159 false
    else
     k159 false
   else
    k159 false
  else
   k159 false)

theorem c11_overflightlaw10_sane {w : World} {O : List Nat} (hO : ∀ k ∈ O, k < w.heap.size) {x : Bool} (hm : m11_overflightlaw10_sane = some x) :
  Ok Try.prog 11 [] w O vB x := by
 unfold m11_overflightlaw10_sane at hm
 refine Fn_of_Wp (n := 185) (xs := [.tmp 0]) Try.func11 rfl Try.ntmps11 Try.results11 rfl ?_
 have hs := St.start hO
 refine Wp_seq ?_
 refine Wp_region ?_
 refine Rg_op rfl (op_assign (v := (Value.bool false)) rfl ?_)
 refine Rg_nil ?_
 refine Wp_seq ?_
 refine Wp_region ?_
 replace hm := bd hm; obtain ⟨example_1, hv1, hm⟩ := hm
 refine Rg_op rfl (op_call Try.call28 (c28_overflightlaw10_example  hs.ltw  hv1) rfl ?_)
 rintro v2 w3 ⟨hx4, h5⟩
 have hs6 := hs.call hx4
 have p7 := Step.ext (O := ks [] O) hx4
 clear hx4
 clear p7
 obtain ⟨_, rfl, ⟨_, _, rfl, ⟨a_y8_volumes, c_y8_volumes, rfl, f_y8_volumes⟩, ⟨_, _, rfl, ⟨a_y8_sectors, c_y8_sectors, rfl, f_y8_sectors⟩, ⟨_, _, rfl, ⟨a_y8_configs, c_y8_configs, rfl, f_y8_configs⟩, ⟨_, _, rfl, ⟨a_y8_segments, c_y8_segments, rfl, f_y8_segments⟩, ⟨_, _, rfl, ⟨a_y8_routes, c_y8_routes, rfl, f_y8_routes⟩, ⟨_, _, rfl, ⟨a_y8_airports, c_y8_airports, rfl, f_y8_airports⟩, ⟨_, _, rfl, ⟨a_y8_classes, c_y8_classes, rfl, f_y8_classes⟩, ⟨a_y8_rules, c_y8_rules, rfl, f_y8_rules⟩⟩⟩⟩⟩⟩⟩⟩⟩ := h5
 refine Rg_op rfl (op_alloc ty31 hs6 ?_)
 intro b9 w10 _ p11 hs12
 replace f_y8_volumes := f_y8_volumes.step p11; replace f_y8_sectors := f_y8_sectors.step p11; replace f_y8_configs := f_y8_configs.step p11; replace f_y8_segments := f_y8_segments.step p11; replace f_y8_routes := f_y8_routes.step p11; replace f_y8_airports := f_y8_airports.step p11; replace f_y8_classes := f_y8_classes.step p11; replace f_y8_rules := f_y8_rules.step p11; clear p11 hs6
 refine Rg_op_ (op_store (cs := [(Value.slice none 0 0), (Value.slice none 0 0), (Value.slice none 0 0), (Value.slice none 0 0), (Value.slice none 0 0), (Value.slice none 0 0), (Value.slice none 0 0), (Value.slice none 0 0)]) (vs := [(Value.slice a_y8_volumes example_1.volumes.length c_y8_volumes), (Value.slice a_y8_sectors example_1.sectors.length c_y8_sectors), (Value.slice a_y8_configs example_1.configs.length c_y8_configs), (Value.slice a_y8_segments example_1.segments.length c_y8_segments), (Value.slice a_y8_routes example_1.routes.length c_y8_routes), (Value.slice a_y8_airports example_1.airports.length c_y8_airports), (Value.slice a_y8_classes example_1.classes.length c_y8_classes), (Value.slice a_y8_rules example_1.rules.length c_y8_rules)]) (cs' := [(Value.slice a_y8_volumes example_1.volumes.length c_y8_volumes), (Value.slice a_y8_sectors example_1.sectors.length c_y8_sectors), (Value.slice a_y8_configs example_1.configs.length c_y8_configs), (Value.slice a_y8_segments example_1.segments.length c_y8_segments), (Value.slice a_y8_routes example_1.routes.length c_y8_routes), (Value.slice a_y8_airports example_1.airports.length c_y8_airports), (Value.slice a_y8_classes example_1.classes.length c_y8_classes), (Value.slice a_y8_rules example_1.rules.length c_y8_rules)]) (bs' := [(some b9, Obj.cells [(Value.slice a_y8_volumes example_1.volumes.length c_y8_volumes), (Value.slice a_y8_sectors example_1.sectors.length c_y8_sectors), (Value.slice a_y8_configs example_1.configs.length c_y8_configs), (Value.slice a_y8_segments example_1.segments.length c_y8_segments), (Value.slice a_y8_routes example_1.routes.length c_y8_routes), (Value.slice a_y8_airports example_1.airports.length c_y8_airports), (Value.slice a_y8_classes example_1.classes.length c_y8_classes), (Value.slice a_y8_rules example_1.rules.length c_y8_rules)].toArray 31)]) (i := 0) ty31 hs12 rfl rfl rfl rfl rfl (le_lit rfl) rfl rfl rfl ?_)
 intro w14 p15 hs16
 replace f_y8_volumes := f_y8_volumes.step p15; replace f_y8_sectors := f_y8_sectors.step p15; replace f_y8_configs := f_y8_configs.step p15; replace f_y8_segments := f_y8_segments.step p15; replace f_y8_routes := f_y8_routes.step p15; replace f_y8_airports := f_y8_airports.step p15; replace f_y8_classes := f_y8_classes.step p15; replace f_y8_rules := f_y8_rules.step p15; clear p15 hs12
 refine Rg_nil ?_
 refine Wp_seq ?_
 refine Wp_region ?_
 refine Rg_op rfl (op_loadA (cs := [(Value.slice a_y8_volumes example_1.volumes.length c_y8_volumes), (Value.slice a_y8_sectors example_1.sectors.length c_y8_sectors), (Value.slice a_y8_configs example_1.configs.length c_y8_configs), (Value.slice a_y8_segments example_1.segments.length c_y8_segments), (Value.slice a_y8_routes example_1.routes.length c_y8_routes), (Value.slice a_y8_airports example_1.airports.length c_y8_airports), (Value.slice a_y8_classes example_1.classes.length c_y8_classes), (Value.slice a_y8_rules example_1.rules.length c_y8_rules)]) (vs := [(Value.slice a_y8_volumes example_1.volumes.length c_y8_volumes), (Value.slice a_y8_sectors example_1.sectors.length c_y8_sectors), (Value.slice a_y8_configs example_1.configs.length c_y8_configs), (Value.slice a_y8_segments example_1.segments.length c_y8_segments), (Value.slice a_y8_routes example_1.routes.length c_y8_routes), (Value.slice a_y8_airports example_1.airports.length c_y8_airports), (Value.slice a_y8_classes example_1.classes.length c_y8_classes), (Value.slice a_y8_rules example_1.rules.length c_y8_rules)]) (i := 0) ty31 hs16 rfl rfl rfl rfl ?_)
 replace hm := bd hm; obtain ⟨reach_1, hv17, hm⟩ := hm
 refine Rg_op rfl (op_call Try.call17 (c17_configs_Reach (a := example_1) (from_ := 0) hs16.ltw f_y8_volumes f_y8_sectors f_y8_configs f_y8_segments f_y8_routes f_y8_airports f_y8_classes f_y8_rules (show InK .i64 0 from by decide) hv17) rfl ?_)
 rintro v18 w19 ⟨hx20, h21⟩
 have hs22 := hs16.call hx20
 have p23 := Step.ext (O := ks [(some b9, Obj.cells [(Value.slice a_y8_volumes example_1.volumes.length c_y8_volumes), (Value.slice a_y8_sectors example_1.sectors.length c_y8_sectors), (Value.slice a_y8_configs example_1.configs.length c_y8_configs), (Value.slice a_y8_segments example_1.segments.length c_y8_segments), (Value.slice a_y8_routes example_1.routes.length c_y8_routes), (Value.slice a_y8_airports example_1.airports.length c_y8_airports), (Value.slice a_y8_classes example_1.classes.length c_y8_classes), (Value.slice a_y8_rules example_1.rules.length c_y8_rules)].toArray 31)] O) hx20
 clear hx20
 replace f_y8_volumes := f_y8_volumes.step p23; replace f_y8_sectors := f_y8_sectors.step p23; replace f_y8_configs := f_y8_configs.step p23; replace f_y8_segments := f_y8_segments.step p23; replace f_y8_routes := f_y8_routes.step p23; replace f_y8_airports := f_y8_airports.step p23; replace f_y8_classes := f_y8_classes.step p23; replace f_y8_rules := f_y8_rules.step p23; clear p23 hs16
 obtain ⟨v24, v25, rfl, h26, h27⟩ := h21
 obtain ⟨a_y28, c_y28, rfl, f_y28⟩ := un_sl h26
 obtain ⟨rfl, r_y29⟩ := h27
 refine Rg_op rfl (op_move (v := (Value.tuple [(Value.slice a_y28 reach_1.1.length c_y28), (Value.int .i64 reach_1.2)].toArray)) rfl ?_)
 refine Rg_op rfl (op_extract (v := (Value.slice a_y28 reach_1.1.length c_y28)) rfl rfl ?_)
 refine Rg_op rfl (op_extract (v := (Value.int .i64 reach_1.2)) rfl rfl ?_)
 refine Rg_op rfl (op_assign (v := (Value.slice a_y28 reach_1.1.length c_y28)) rfl ?_)
 refine Rg_op rfl (op_assign (v := (Value.int .i64 reach_1.2)) rfl ?_)
 refine Rg_nil ?_
 refine Wp_seq ?_
 refine Wp_region ?_
 refine Rg_op rfl (op_loadA (cs := [(Value.slice a_y8_volumes example_1.volumes.length c_y8_volumes), (Value.slice a_y8_sectors example_1.sectors.length c_y8_sectors), (Value.slice a_y8_configs example_1.configs.length c_y8_configs), (Value.slice a_y8_segments example_1.segments.length c_y8_segments), (Value.slice a_y8_routes example_1.routes.length c_y8_routes), (Value.slice a_y8_airports example_1.airports.length c_y8_airports), (Value.slice a_y8_classes example_1.classes.length c_y8_classes), (Value.slice a_y8_rules example_1.rules.length c_y8_rules)]) (vs := [(Value.slice a_y8_volumes example_1.volumes.length c_y8_volumes), (Value.slice a_y8_sectors example_1.sectors.length c_y8_sectors), (Value.slice a_y8_configs example_1.configs.length c_y8_configs), (Value.slice a_y8_segments example_1.segments.length c_y8_segments), (Value.slice a_y8_routes example_1.routes.length c_y8_routes), (Value.slice a_y8_airports example_1.airports.length c_y8_airports), (Value.slice a_y8_classes example_1.classes.length c_y8_classes), (Value.slice a_y8_rules example_1.rules.length c_y8_rules)]) (i := 0) ty31 hs22 rfl rfl rfl rfl ?_)
 replace hm := bd hm; obtain ⟨path_1, hv30, hm⟩ := hm
 refine Rg_op rfl (op_call Try.call22 (c22_configs_Path (a := example_1) (from_ := 0) (to := 1) hs22.ltw f_y8_volumes f_y8_sectors f_y8_configs f_y8_segments f_y8_routes f_y8_airports f_y8_classes f_y8_rules (show InK .i64 0 from by decide) (show InK .i64 1 from by decide) hv30) rfl ?_)
 rintro v31 w32 ⟨hx33, h34⟩
 have hs35 := hs22.call hx33
 have p36 := Step.ext (O := ks [(some b9, Obj.cells [(Value.slice a_y8_volumes example_1.volumes.length c_y8_volumes), (Value.slice a_y8_sectors example_1.sectors.length c_y8_sectors), (Value.slice a_y8_configs example_1.configs.length c_y8_configs), (Value.slice a_y8_segments example_1.segments.length c_y8_segments), (Value.slice a_y8_routes example_1.routes.length c_y8_routes), (Value.slice a_y8_airports example_1.airports.length c_y8_airports), (Value.slice a_y8_classes example_1.classes.length c_y8_classes), (Value.slice a_y8_rules example_1.rules.length c_y8_rules)].toArray 31)] O) hx33
 clear hx33
 replace f_y8_volumes := f_y8_volumes.step p36; replace f_y8_sectors := f_y8_sectors.step p36; replace f_y8_configs := f_y8_configs.step p36; replace f_y8_segments := f_y8_segments.step p36; replace f_y8_routes := f_y8_routes.step p36; replace f_y8_airports := f_y8_airports.step p36; replace f_y8_classes := f_y8_classes.step p36; replace f_y8_rules := f_y8_rules.step p36; replace f_y28 := f_y28.step p36; clear p36 hs22
 obtain ⟨v37, v38, v39, rfl, h40, h41, h42⟩ := h34
 obtain ⟨a_y43, c_y43, rfl, f_y43⟩ := un_sl h40
 obtain rfl := h41
 obtain ⟨rfl, r_y45⟩ := h42
 refine Rg_op rfl (op_move (v := (Value.tuple [(Value.slice a_y43 path_1.1.length c_y43), (Value.bool path_1.2.1), (Value.int .i64 path_1.2.2)].toArray)) rfl ?_)
 refine Rg_op rfl (op_extract (v := (Value.slice a_y43 path_1.1.length c_y43)) rfl rfl ?_)
 refine Rg_op rfl (op_extract (v := (Value.bool path_1.2.1)) rfl rfl ?_)
 refine Rg_op rfl (op_extract (v := (Value.int .i64 path_1.2.2)) rfl rfl ?_)
 refine Rg_op rfl (op_assign (v := (Value.slice a_y43 path_1.1.length c_y43)) rfl ?_)
 refine Rg_op rfl (op_assign (v := (Value.bool path_1.2.1)) rfl ?_)
 refine Rg_op rfl (op_assign (v := (Value.int .i64 path_1.2.2)) rfl ?_)
 refine Rg_nil ?_
 refine Wp_seq ?_
 refine Wp_region ?_
 refine Rg_op rfl (op_loadA (cs := [(Value.slice a_y8_volumes example_1.volumes.length c_y8_volumes), (Value.slice a_y8_sectors example_1.sectors.length c_y8_sectors), (Value.slice a_y8_configs example_1.configs.length c_y8_configs), (Value.slice a_y8_segments example_1.segments.length c_y8_segments), (Value.slice a_y8_routes example_1.routes.length c_y8_routes), (Value.slice a_y8_airports example_1.airports.length c_y8_airports), (Value.slice a_y8_classes example_1.classes.length c_y8_classes), (Value.slice a_y8_rules example_1.rules.length c_y8_rules)]) (vs := [(Value.slice a_y8_volumes example_1.volumes.length c_y8_volumes), (Value.slice a_y8_sectors example_1.sectors.length c_y8_sectors), (Value.slice a_y8_configs example_1.configs.length c_y8_configs), (Value.slice a_y8_segments example_1.segments.length c_y8_segments), (Value.slice a_y8_routes example_1.routes.length c_y8_routes), (Value.slice a_y8_airports example_1.airports.length c_y8_airports), (Value.slice a_y8_classes example_1.classes.length c_y8_classes), (Value.slice a_y8_rules example_1.rules.length c_y8_rules)]) (i := 0) ty31 hs35 rfl rfl rfl rfl ?_)
 replace hm := bd hm; obtain ⟨path_2, hv46, hm⟩ := hm
 refine Rg_op rfl (op_call Try.call22 (c22_configs_Path (a := example_1) (from_ := 1) (to := 1) hs35.ltw f_y8_volumes f_y8_sectors f_y8_configs f_y8_segments f_y8_routes f_y8_airports f_y8_classes f_y8_rules (show InK .i64 1 from by decide) (show InK .i64 1 from by decide) hv46) rfl ?_)
 rintro v47 w48 ⟨hx49, h50⟩
 have hs51 := hs35.call hx49
 have p52 := Step.ext (O := ks [(some b9, Obj.cells [(Value.slice a_y8_volumes example_1.volumes.length c_y8_volumes), (Value.slice a_y8_sectors example_1.sectors.length c_y8_sectors), (Value.slice a_y8_configs example_1.configs.length c_y8_configs), (Value.slice a_y8_segments example_1.segments.length c_y8_segments), (Value.slice a_y8_routes example_1.routes.length c_y8_routes), (Value.slice a_y8_airports example_1.airports.length c_y8_airports), (Value.slice a_y8_classes example_1.classes.length c_y8_classes), (Value.slice a_y8_rules example_1.rules.length c_y8_rules)].toArray 31)] O) hx49
 clear hx49
 replace f_y8_volumes := f_y8_volumes.step p52; replace f_y8_sectors := f_y8_sectors.step p52; replace f_y8_configs := f_y8_configs.step p52; replace f_y8_segments := f_y8_segments.step p52; replace f_y8_routes := f_y8_routes.step p52; replace f_y8_airports := f_y8_airports.step p52; replace f_y8_classes := f_y8_classes.step p52; replace f_y8_rules := f_y8_rules.step p52; replace f_y28 := f_y28.step p52; replace f_y43 := f_y43.step p52; clear p52 hs35
 obtain ⟨v53, v54, v55, rfl, h56, h57, h58⟩ := h50
 obtain ⟨a_y59, c_y59, rfl, f_y59⟩ := un_sl h56
 obtain rfl := h57
 obtain ⟨rfl, r_y61⟩ := h58
 refine Rg_op rfl (op_move (v := (Value.tuple [(Value.slice a_y59 path_2.1.length c_y59), (Value.bool path_2.2.1), (Value.int .i64 path_2.2.2)].toArray)) rfl ?_)
 refine Rg_op rfl (op_extract (v := (Value.slice a_y59 path_2.1.length c_y59)) rfl rfl ?_)
 refine Rg_op rfl (op_extract (v := (Value.bool path_2.2.1)) rfl rfl ?_)
 refine Rg_op rfl (op_extract (v := (Value.int .i64 path_2.2.2)) rfl rfl ?_)
 refine Rg_op rfl (op_assign (v := (Value.slice a_y59 path_2.1.length c_y59)) rfl ?_)
 refine Rg_op rfl (op_assign (v := (Value.bool path_2.2.1)) rfl ?_)
 refine Rg_op rfl (op_assign (v := (Value.int .i64 path_2.2.2)) rfl ?_)
 refine Rg_nil ?_
 refine Wp_seq ?_
 refine Wp_reset [] [(1, (Value.pointer (some ⟨b9, 0, none⟩))), (2, (Value.slice a_y28 reach_1.1.length c_y28)), (3, (Value.int .i64 reach_1.2)), (4, (Value.slice a_y43 path_1.1.length c_y43)), (5, (Value.bool path_1.2.1)), (6, (Value.int .i64 path_1.2.2)), (7, (Value.slice a_y59 path_2.1.length c_y59)), (8, (Value.bool path_2.2.1)), (9, (Value.int .i64 path_2.2.2))] rfl ⟨rfl, rfl, rfl, rfl, rfl, rfl, rfl, rfl, rfl, trivial⟩ fun ξ62 => ?_
 refine Wp_region ?_
 refine Rg_op rfl (op_loadA (cs := [(Value.slice a_y8_volumes example_1.volumes.length c_y8_volumes), (Value.slice a_y8_sectors example_1.sectors.length c_y8_sectors), (Value.slice a_y8_configs example_1.configs.length c_y8_configs), (Value.slice a_y8_segments example_1.segments.length c_y8_segments), (Value.slice a_y8_routes example_1.routes.length c_y8_routes), (Value.slice a_y8_airports example_1.airports.length c_y8_airports), (Value.slice a_y8_classes example_1.classes.length c_y8_classes), (Value.slice a_y8_rules example_1.rules.length c_y8_rules)]) (vs := [(Value.slice a_y8_volumes example_1.volumes.length c_y8_volumes), (Value.slice a_y8_sectors example_1.sectors.length c_y8_sectors), (Value.slice a_y8_configs example_1.configs.length c_y8_configs), (Value.slice a_y8_segments example_1.segments.length c_y8_segments), (Value.slice a_y8_routes example_1.routes.length c_y8_routes), (Value.slice a_y8_airports example_1.airports.length c_y8_airports), (Value.slice a_y8_classes example_1.classes.length c_y8_classes), (Value.slice a_y8_rules example_1.rules.length c_y8_rules)]) (i := 0) ty31 hs51 rfl rfl rfl rfl ?_)
 replace hm := bd hm; obtain ⟨stuck_1, hv63, hm⟩ := hm
 refine Rg_op rfl (op_call Try.call24 (c24_configs_Stuck (a := example_1) hs51.ltw f_y8_volumes f_y8_sectors f_y8_configs f_y8_segments f_y8_routes f_y8_airports f_y8_classes f_y8_rules hv63) rfl ?_)
 rintro v64 w65 ⟨hx66, h67⟩
 have hs68 := hs51.call hx66
 have p69 := Step.ext (O := ks [(some b9, Obj.cells [(Value.slice a_y8_volumes example_1.volumes.length c_y8_volumes), (Value.slice a_y8_sectors example_1.sectors.length c_y8_sectors), (Value.slice a_y8_configs example_1.configs.length c_y8_configs), (Value.slice a_y8_segments example_1.segments.length c_y8_segments), (Value.slice a_y8_routes example_1.routes.length c_y8_routes), (Value.slice a_y8_airports example_1.airports.length c_y8_airports), (Value.slice a_y8_classes example_1.classes.length c_y8_classes), (Value.slice a_y8_rules example_1.rules.length c_y8_rules)].toArray 31)] O) hx66
 clear hx66
 replace f_y8_volumes := f_y8_volumes.step p69; replace f_y8_sectors := f_y8_sectors.step p69; replace f_y8_configs := f_y8_configs.step p69; replace f_y8_segments := f_y8_segments.step p69; replace f_y8_routes := f_y8_routes.step p69; replace f_y8_airports := f_y8_airports.step p69; replace f_y8_classes := f_y8_classes.step p69; replace f_y8_rules := f_y8_rules.step p69; replace f_y28 := f_y28.step p69; replace f_y43 := f_y43.step p69; replace f_y59 := f_y59.step p69; clear p69 hs51
 obtain ⟨v70, v71, v72, v73, rfl, h74, h75, h76, h77⟩ := h67
 obtain ⟨rfl, r_y78⟩ := h74
 obtain ⟨rfl, r_y79⟩ := h75
 obtain rfl := h76
 obtain ⟨rfl, r_y81⟩ := h77
 refine Rg_op rfl (op_move (v := (Value.tuple [(Value.int .i64 stuck_1.1), (Value.int .i64 stuck_1.2.1), (Value.bool stuck_1.2.2.1), (Value.int .i64 stuck_1.2.2.2)].toArray)) rfl ?_)
 refine Rg_op rfl (op_extract (v := (Value.int .i64 stuck_1.1)) rfl rfl ?_)
 refine Rg_op rfl (op_extract (v := (Value.int .i64 stuck_1.2.1)) rfl rfl ?_)
 refine Rg_op rfl (op_extract (v := (Value.bool stuck_1.2.2.1)) rfl rfl ?_)
 refine Rg_op rfl (op_extract (v := (Value.int .i64 stuck_1.2.2.2)) rfl rfl ?_)
 refine Rg_op rfl (op_assign (v := (Value.int .i64 stuck_1.1)) rfl ?_)
 refine Rg_op rfl (op_assign (v := (Value.int .i64 stuck_1.2.1)) rfl ?_)
 refine Rg_op rfl (op_assign (v := (Value.bool stuck_1.2.2.1)) rfl ?_)
 refine Rg_op rfl (op_assign (v := (Value.int .i64 stuck_1.2.2.2)) rfl ?_)
 refine Rg_nil ?_
 refine Wp_seq ?_
 refine Wp_region ?_
 refine Rg_op rfl (op_loadA (cs := [(Value.slice a_y8_volumes example_1.volumes.length c_y8_volumes), (Value.slice a_y8_sectors example_1.sectors.length c_y8_sectors), (Value.slice a_y8_configs example_1.configs.length c_y8_configs), (Value.slice a_y8_segments example_1.segments.length c_y8_segments), (Value.slice a_y8_routes example_1.routes.length c_y8_routes), (Value.slice a_y8_airports example_1.airports.length c_y8_airports), (Value.slice a_y8_classes example_1.classes.length c_y8_classes), (Value.slice a_y8_rules example_1.rules.length c_y8_rules)]) (vs := [(Value.slice a_y8_volumes example_1.volumes.length c_y8_volumes), (Value.slice a_y8_sectors example_1.sectors.length c_y8_sectors), (Value.slice a_y8_configs example_1.configs.length c_y8_configs), (Value.slice a_y8_segments example_1.segments.length c_y8_segments), (Value.slice a_y8_routes example_1.routes.length c_y8_routes), (Value.slice a_y8_airports example_1.airports.length c_y8_airports), (Value.slice a_y8_classes example_1.classes.length c_y8_classes), (Value.slice a_y8_rules example_1.rules.length c_y8_rules)]) (i := 0) ty31 hs68 rfl rfl rfl rfl ?_)
 refine Rg_op rfl (op_alloc ty31 hs68 ?_)
 intro b82 w83 _ p84 hs85
 replace f_y8_volumes := f_y8_volumes.step p84; replace f_y8_sectors := f_y8_sectors.step p84; replace f_y8_configs := f_y8_configs.step p84; replace f_y8_segments := f_y8_segments.step p84; replace f_y8_routes := f_y8_routes.step p84; replace f_y8_airports := f_y8_airports.step p84; replace f_y8_classes := f_y8_classes.step p84; replace f_y8_rules := f_y8_rules.step p84; replace f_y28 := f_y28.step p84; replace f_y43 := f_y43.step p84; replace f_y59 := f_y59.step p84; clear p84 hs68
 refine Rg_op_ (op_store (cs := [(Value.slice none 0 0), (Value.slice none 0 0), (Value.slice none 0 0), (Value.slice none 0 0), (Value.slice none 0 0), (Value.slice none 0 0), (Value.slice none 0 0), (Value.slice none 0 0)]) (vs := [(Value.slice a_y8_volumes example_1.volumes.length c_y8_volumes), (Value.slice a_y8_sectors example_1.sectors.length c_y8_sectors), (Value.slice a_y8_configs example_1.configs.length c_y8_configs), (Value.slice a_y8_segments example_1.segments.length c_y8_segments), (Value.slice a_y8_routes example_1.routes.length c_y8_routes), (Value.slice a_y8_airports example_1.airports.length c_y8_airports), (Value.slice a_y8_classes example_1.classes.length c_y8_classes), (Value.slice a_y8_rules example_1.rules.length c_y8_rules)]) (cs' := [(Value.slice a_y8_volumes example_1.volumes.length c_y8_volumes), (Value.slice a_y8_sectors example_1.sectors.length c_y8_sectors), (Value.slice a_y8_configs example_1.configs.length c_y8_configs), (Value.slice a_y8_segments example_1.segments.length c_y8_segments), (Value.slice a_y8_routes example_1.routes.length c_y8_routes), (Value.slice a_y8_airports example_1.airports.length c_y8_airports), (Value.slice a_y8_classes example_1.classes.length c_y8_classes), (Value.slice a_y8_rules example_1.rules.length c_y8_rules)]) (bs' := [(some b82, Obj.cells [(Value.slice a_y8_volumes example_1.volumes.length c_y8_volumes), (Value.slice a_y8_sectors example_1.sectors.length c_y8_sectors), (Value.slice a_y8_configs example_1.configs.length c_y8_configs), (Value.slice a_y8_segments example_1.segments.length c_y8_segments), (Value.slice a_y8_routes example_1.routes.length c_y8_routes), (Value.slice a_y8_airports example_1.airports.length c_y8_airports), (Value.slice a_y8_classes example_1.classes.length c_y8_classes), (Value.slice a_y8_rules example_1.rules.length c_y8_rules)].toArray 31), (some b9, Obj.cells [(Value.slice a_y8_volumes example_1.volumes.length c_y8_volumes), (Value.slice a_y8_sectors example_1.sectors.length c_y8_sectors), (Value.slice a_y8_configs example_1.configs.length c_y8_configs), (Value.slice a_y8_segments example_1.segments.length c_y8_segments), (Value.slice a_y8_routes example_1.routes.length c_y8_routes), (Value.slice a_y8_airports example_1.airports.length c_y8_airports), (Value.slice a_y8_classes example_1.classes.length c_y8_classes), (Value.slice a_y8_rules example_1.rules.length c_y8_rules)].toArray 31)]) (i := 0) ty31 hs85 rfl rfl rfl rfl rfl (le_lit rfl) rfl rfl rfl ?_)
 intro w87 p88 hs89
 replace f_y8_volumes := f_y8_volumes.step p88; replace f_y8_sectors := f_y8_sectors.step p88; replace f_y8_configs := f_y8_configs.step p88; replace f_y8_segments := f_y8_segments.step p88; replace f_y8_routes := f_y8_routes.step p88; replace f_y8_airports := f_y8_airports.step p88; replace f_y8_classes := f_y8_classes.step p88; replace f_y8_rules := f_y8_rules.step p88; replace f_y28 := f_y28.step p88; replace f_y43 := f_y43.step p88; replace f_y59 := f_y59.step p88; clear p88 hs85
 refine Rg_nil ?_
 refine Wp_seq ?_
 refine Wp_region ?_
 refine Rg_op rfl (op_fieldAddr ty31 rfl ty24 (by decide) rfl (rfl : _ = (⟨_, 2, none⟩ : Addr)) ?_)
 refine Rg_op rfl (op_load (cs := [(Value.slice a_y8_volumes example_1.volumes.length c_y8_volumes), (Value.slice a_y8_sectors example_1.sectors.length c_y8_sectors), (Value.slice a_y8_configs example_1.configs.length c_y8_configs), (Value.slice a_y8_segments example_1.segments.length c_y8_segments), (Value.slice a_y8_routes example_1.routes.length c_y8_routes), (Value.slice a_y8_airports example_1.airports.length c_y8_airports), (Value.slice a_y8_classes example_1.classes.length c_y8_classes), (Value.slice a_y8_rules example_1.rules.length c_y8_rules)]) (i := 1) ty24 hs89 rfl rfl rfl ?_)
 replace hm := ck_some hm; obtain ⟨hc90, hm⟩ := hm
 refine Rg_op rfl (op_slice (q := rXConfig) (l := 0) (h := 2) (m := c_y8_configs) ty24 ty52 rfl f_y8_configs rfl rfl (bndI rfl (by omega)) rfl (by decide) (by omega) (by omega) (by have h_ : example_1.configs.length ≤ c_y8_configs := f_y8_configs.le; omega) (by have h_ : example_1.configs.length ≤ c_y8_configs := f_y8_configs.le; omega) ?_)
 intro a91 f92
 refine Rg_op rfl (op_fieldAddr ty31 rfl ty24 (by decide) rfl (rfl : _ = (⟨_, 2, none⟩ : Addr)) ?_)
 refine Rg_op_ (op_store (cs := [(Value.slice a_y8_volumes example_1.volumes.length c_y8_volumes), (Value.slice a_y8_sectors example_1.sectors.length c_y8_sectors), (Value.slice a_y8_configs example_1.configs.length c_y8_configs), (Value.slice a_y8_segments example_1.segments.length c_y8_segments), (Value.slice a_y8_routes example_1.routes.length c_y8_routes), (Value.slice a_y8_airports example_1.airports.length c_y8_airports), (Value.slice a_y8_classes example_1.classes.length c_y8_classes), (Value.slice a_y8_rules example_1.rules.length c_y8_rules)]) (vs := [(Value.slice a91 ((example_1.configs.drop 0).take (2 - 0)).length (c_y8_configs - 0))]) (cs' := [(Value.slice a_y8_volumes example_1.volumes.length c_y8_volumes), (Value.slice a_y8_sectors example_1.sectors.length c_y8_sectors), (Value.slice a91 ((example_1.configs.drop 0).take (2 - 0)).length (c_y8_configs - 0)), (Value.slice a_y8_segments example_1.segments.length c_y8_segments), (Value.slice a_y8_routes example_1.routes.length c_y8_routes), (Value.slice a_y8_airports example_1.airports.length c_y8_airports), (Value.slice a_y8_classes example_1.classes.length c_y8_classes), (Value.slice a_y8_rules example_1.rules.length c_y8_rules)]) (bs' := [(some b82, Obj.cells [(Value.slice a_y8_volumes example_1.volumes.length c_y8_volumes), (Value.slice a_y8_sectors example_1.sectors.length c_y8_sectors), (Value.slice a91 ((example_1.configs.drop 0).take (2 - 0)).length (c_y8_configs - 0)), (Value.slice a_y8_segments example_1.segments.length c_y8_segments), (Value.slice a_y8_routes example_1.routes.length c_y8_routes), (Value.slice a_y8_airports example_1.airports.length c_y8_airports), (Value.slice a_y8_classes example_1.classes.length c_y8_classes), (Value.slice a_y8_rules example_1.rules.length c_y8_rules)].toArray 31), (some b9, Obj.cells [(Value.slice a_y8_volumes example_1.volumes.length c_y8_volumes), (Value.slice a_y8_sectors example_1.sectors.length c_y8_sectors), (Value.slice a_y8_configs example_1.configs.length c_y8_configs), (Value.slice a_y8_segments example_1.segments.length c_y8_segments), (Value.slice a_y8_routes example_1.routes.length c_y8_routes), (Value.slice a_y8_airports example_1.airports.length c_y8_airports), (Value.slice a_y8_classes example_1.classes.length c_y8_classes), (Value.slice a_y8_rules example_1.rules.length c_y8_rules)].toArray 31)]) (i := 0) ty24 hs89 rfl rfl rfl rfl rfl (le_lit rfl) rfl rfl rfl ?_)
 intro w93 p94 hs95
 replace f_y8_volumes := f_y8_volumes.step p94; replace f_y8_sectors := f_y8_sectors.step p94; replace f_y8_configs := f_y8_configs.step p94; replace f_y8_segments := f_y8_segments.step p94; replace f_y8_routes := f_y8_routes.step p94; replace f_y8_airports := f_y8_airports.step p94; replace f_y8_classes := f_y8_classes.step p94; replace f_y8_rules := f_y8_rules.step p94; replace f_y28 := f_y28.step p94; replace f_y43 := f_y43.step p94; replace f_y59 := f_y59.step p94; replace f92 := f92.step p94; clear p94 hs89
 refine Rg_nil ?_
 refine Wp_seq ?_
 refine Wp_region ?_
 refine Rg_op rfl (op_loadA (cs := [(Value.slice a_y8_volumes example_1.volumes.length c_y8_volumes), (Value.slice a_y8_sectors example_1.sectors.length c_y8_sectors), (Value.slice a91 ((example_1.configs.drop 0).take (2 - 0)).length (c_y8_configs - 0)), (Value.slice a_y8_segments example_1.segments.length c_y8_segments), (Value.slice a_y8_routes example_1.routes.length c_y8_routes), (Value.slice a_y8_airports example_1.airports.length c_y8_airports), (Value.slice a_y8_classes example_1.classes.length c_y8_classes), (Value.slice a_y8_rules example_1.rules.length c_y8_rules)]) (vs := [(Value.slice a_y8_volumes example_1.volumes.length c_y8_volumes), (Value.slice a_y8_sectors example_1.sectors.length c_y8_sectors), (Value.slice a91 ((example_1.configs.drop 0).take (2 - 0)).length (c_y8_configs - 0)), (Value.slice a_y8_segments example_1.segments.length c_y8_segments), (Value.slice a_y8_routes example_1.routes.length c_y8_routes), (Value.slice a_y8_airports example_1.airports.length c_y8_airports), (Value.slice a_y8_classes example_1.classes.length c_y8_classes), (Value.slice a_y8_rules example_1.rules.length c_y8_rules)]) (i := 0) ty31 hs95 rfl rfl rfl rfl ?_)
 replace hm := bd hm; obtain ⟨stuck_2, hv96, hm⟩ := hm
 refine Rg_op rfl (op_call Try.call24 (c24_configs_Stuck (a := (⟨example_1.volumes, example_1.sectors, ((example_1.configs.drop 0).take (2 - 0)), example_1.segments, example_1.routes, example_1.airports, example_1.classes, example_1.rules⟩ : XAirspace)) hs95.ltw f_y8_volumes f_y8_sectors f92 f_y8_segments f_y8_routes f_y8_airports f_y8_classes f_y8_rules hv96) rfl ?_)
 rintro v97 w98 ⟨hx99, h100⟩
 have hs101 := hs95.call hx99
 have p102 := Step.ext (O := ks [(some b82, Obj.cells [(Value.slice a_y8_volumes example_1.volumes.length c_y8_volumes), (Value.slice a_y8_sectors example_1.sectors.length c_y8_sectors), (Value.slice a91 ((example_1.configs.drop 0).take (2 - 0)).length (c_y8_configs - 0)), (Value.slice a_y8_segments example_1.segments.length c_y8_segments), (Value.slice a_y8_routes example_1.routes.length c_y8_routes), (Value.slice a_y8_airports example_1.airports.length c_y8_airports), (Value.slice a_y8_classes example_1.classes.length c_y8_classes), (Value.slice a_y8_rules example_1.rules.length c_y8_rules)].toArray 31), (some b9, Obj.cells [(Value.slice a_y8_volumes example_1.volumes.length c_y8_volumes), (Value.slice a_y8_sectors example_1.sectors.length c_y8_sectors), (Value.slice a_y8_configs example_1.configs.length c_y8_configs), (Value.slice a_y8_segments example_1.segments.length c_y8_segments), (Value.slice a_y8_routes example_1.routes.length c_y8_routes), (Value.slice a_y8_airports example_1.airports.length c_y8_airports), (Value.slice a_y8_classes example_1.classes.length c_y8_classes), (Value.slice a_y8_rules example_1.rules.length c_y8_rules)].toArray 31)] O) hx99
 clear hx99
 replace f_y8_volumes := f_y8_volumes.step p102; replace f_y8_sectors := f_y8_sectors.step p102; replace f_y8_configs := f_y8_configs.step p102; replace f_y8_segments := f_y8_segments.step p102; replace f_y8_routes := f_y8_routes.step p102; replace f_y8_airports := f_y8_airports.step p102; replace f_y8_classes := f_y8_classes.step p102; replace f_y8_rules := f_y8_rules.step p102; replace f_y28 := f_y28.step p102; replace f_y43 := f_y43.step p102; replace f_y59 := f_y59.step p102; replace f92 := f92.step p102; clear p102 hs95
 obtain ⟨v103, v104, v105, v106, rfl, h107, h108, h109, h110⟩ := h100
 obtain ⟨rfl, r_y111⟩ := h107
 obtain ⟨rfl, r_y112⟩ := h108
 obtain rfl := h109
 obtain ⟨rfl, r_y114⟩ := h110
 refine Rg_op rfl (op_move (v := (Value.tuple [(Value.int .i64 stuck_2.1), (Value.int .i64 stuck_2.2.1), (Value.bool stuck_2.2.2.1), (Value.int .i64 stuck_2.2.2.2)].toArray)) rfl ?_)
 refine Rg_op rfl (op_extract (v := (Value.int .i64 stuck_2.1)) rfl rfl ?_)
 refine Rg_op rfl (op_extract (v := (Value.int .i64 stuck_2.2.1)) rfl rfl ?_)
 refine Rg_op rfl (op_extract (v := (Value.bool stuck_2.2.2.1)) rfl rfl ?_)
 refine Rg_op rfl (op_extract (v := (Value.int .i64 stuck_2.2.2.2)) rfl rfl ?_)
 refine Rg_op rfl (op_assign (v := (Value.int .i64 stuck_2.1)) rfl ?_)
 refine Rg_op rfl (op_assign (v := (Value.int .i64 stuck_2.2.1)) rfl ?_)
 refine Rg_op rfl (op_assign (v := (Value.bool stuck_2.2.2.1)) rfl ?_)
 refine Rg_op rfl (op_assign (v := (Value.int .i64 stuck_2.2.2.2)) rfl ?_)
 refine Rg_nil ?_
 refine Wp_seq ?_
 refine Wp_reset [] [(1, (Value.pointer (some ⟨b9, 0, none⟩))), (2, (Value.slice a_y28 reach_1.1.length c_y28)), (3, (Value.int .i64 reach_1.2)), (4, (Value.slice a_y43 path_1.1.length c_y43)), (5, (Value.bool path_1.2.1)), (6, (Value.int .i64 path_1.2.2)), (7, (Value.slice a_y59 path_2.1.length c_y59)), (8, (Value.bool path_2.2.1)), (9, (Value.int .i64 path_2.2.2)), (10, (Value.int .i64 stuck_1.1)), (11, (Value.int .i64 stuck_1.2.1)), (12, (Value.bool stuck_1.2.2.1)), (13, (Value.int .i64 stuck_1.2.2.2)), (14, (Value.pointer (some ⟨b82, 0, none⟩))), (15, (Value.int .i64 stuck_2.1)), (16, (Value.int .i64 stuck_2.2.1)), (17, (Value.bool stuck_2.2.2.1)), (18, (Value.int .i64 stuck_2.2.2.2))] rfl ⟨rfl, rfl, rfl, rfl, rfl, rfl, rfl, rfl, rfl, rfl, rfl, rfl, rfl, rfl, rfl, rfl, rfl, rfl, trivial⟩ fun ξ115 => ?_
 refine Wp_region ?_
 refine Rg_op rfl (op_loadA (cs := [(Value.slice a_y8_volumes example_1.volumes.length c_y8_volumes), (Value.slice a_y8_sectors example_1.sectors.length c_y8_sectors), (Value.slice a91 ((example_1.configs.drop 0).take (2 - 0)).length (c_y8_configs - 0)), (Value.slice a_y8_segments example_1.segments.length c_y8_segments), (Value.slice a_y8_routes example_1.routes.length c_y8_routes), (Value.slice a_y8_airports example_1.airports.length c_y8_airports), (Value.slice a_y8_classes example_1.classes.length c_y8_classes), (Value.slice a_y8_rules example_1.rules.length c_y8_rules)]) (vs := [(Value.slice a_y8_volumes example_1.volumes.length c_y8_volumes), (Value.slice a_y8_sectors example_1.sectors.length c_y8_sectors), (Value.slice a91 ((example_1.configs.drop 0).take (2 - 0)).length (c_y8_configs - 0)), (Value.slice a_y8_segments example_1.segments.length c_y8_segments), (Value.slice a_y8_routes example_1.routes.length c_y8_routes), (Value.slice a_y8_airports example_1.airports.length c_y8_airports), (Value.slice a_y8_classes example_1.classes.length c_y8_classes), (Value.slice a_y8_rules example_1.rules.length c_y8_rules)]) (i := 0) ty31 hs101 rfl rfl rfl rfl ?_)
 replace hm := bd hm; obtain ⟨reach_2, hv116, hm⟩ := hm
 refine Rg_op rfl (op_call Try.call17 (c17_configs_Reach (a := (⟨example_1.volumes, example_1.sectors, ((example_1.configs.drop 0).take (2 - 0)), example_1.segments, example_1.routes, example_1.airports, example_1.classes, example_1.rules⟩ : XAirspace)) (from_ := 1) hs101.ltw f_y8_volumes f_y8_sectors f92 f_y8_segments f_y8_routes f_y8_airports f_y8_classes f_y8_rules (show InK .i64 1 from by decide) hv116) rfl ?_)
 rintro v117 w118 ⟨hx119, h120⟩
 have hs121 := hs101.call hx119
 have p122 := Step.ext (O := ks [(some b82, Obj.cells [(Value.slice a_y8_volumes example_1.volumes.length c_y8_volumes), (Value.slice a_y8_sectors example_1.sectors.length c_y8_sectors), (Value.slice a91 ((example_1.configs.drop 0).take (2 - 0)).length (c_y8_configs - 0)), (Value.slice a_y8_segments example_1.segments.length c_y8_segments), (Value.slice a_y8_routes example_1.routes.length c_y8_routes), (Value.slice a_y8_airports example_1.airports.length c_y8_airports), (Value.slice a_y8_classes example_1.classes.length c_y8_classes), (Value.slice a_y8_rules example_1.rules.length c_y8_rules)].toArray 31), (some b9, Obj.cells [(Value.slice a_y8_volumes example_1.volumes.length c_y8_volumes), (Value.slice a_y8_sectors example_1.sectors.length c_y8_sectors), (Value.slice a_y8_configs example_1.configs.length c_y8_configs), (Value.slice a_y8_segments example_1.segments.length c_y8_segments), (Value.slice a_y8_routes example_1.routes.length c_y8_routes), (Value.slice a_y8_airports example_1.airports.length c_y8_airports), (Value.slice a_y8_classes example_1.classes.length c_y8_classes), (Value.slice a_y8_rules example_1.rules.length c_y8_rules)].toArray 31)] O) hx119
 clear hx119
 replace f_y8_volumes := f_y8_volumes.step p122; replace f_y8_sectors := f_y8_sectors.step p122; replace f_y8_configs := f_y8_configs.step p122; replace f_y8_segments := f_y8_segments.step p122; replace f_y8_routes := f_y8_routes.step p122; replace f_y8_airports := f_y8_airports.step p122; replace f_y8_classes := f_y8_classes.step p122; replace f_y8_rules := f_y8_rules.step p122; replace f_y28 := f_y28.step p122; replace f_y43 := f_y43.step p122; replace f_y59 := f_y59.step p122; replace f92 := f92.step p122; clear p122 hs101
 obtain ⟨v123, v124, rfl, h125, h126⟩ := h120
 obtain ⟨a_y127, c_y127, rfl, f_y127⟩ := un_sl h125
 obtain ⟨rfl, r_y128⟩ := h126
 refine Rg_op rfl (op_move (v := (Value.tuple [(Value.slice a_y127 reach_2.1.length c_y127), (Value.int .i64 reach_2.2)].toArray)) rfl ?_)
 refine Rg_op rfl (op_extract (v := (Value.slice a_y127 reach_2.1.length c_y127)) rfl rfl ?_)
 refine Rg_op rfl (op_extract (v := (Value.int .i64 reach_2.2)) rfl rfl ?_)
 refine Rg_op rfl (op_assign (v := (Value.slice a_y127 reach_2.1.length c_y127)) rfl ?_)
 refine Rg_op rfl (op_assign (v := (Value.int .i64 reach_2.2)) rfl ?_)
 refine Rg_nil ?_
 refine Wp_seq ?_
 obtain ⟨hs129, p130⟩ := hs121.sub (bs' := [(some b9, Obj.cells [(Value.slice a_y8_volumes example_1.volumes.length c_y8_volumes), (Value.slice a_y8_sectors example_1.sectors.length c_y8_sectors), (Value.slice a_y8_configs example_1.configs.length c_y8_configs), (Value.slice a_y8_segments example_1.segments.length c_y8_segments), (Value.slice a_y8_routes example_1.routes.length c_y8_routes), (Value.slice a_y8_airports example_1.airports.length c_y8_airports), (Value.slice a_y8_classes example_1.classes.length c_y8_classes), (Value.slice a_y8_rules example_1.rules.length c_y8_rules)].toArray 31)]) (.cons _ (.cons_cons _ List.Sublist.slnil))
 clear f92
 replace f_y8_volumes := f_y8_volumes.step p130; replace f_y8_sectors := f_y8_sectors.step p130; replace f_y8_configs := f_y8_configs.step p130; replace f_y8_segments := f_y8_segments.step p130; replace f_y8_routes := f_y8_routes.step p130; replace f_y8_airports := f_y8_airports.step p130; replace f_y8_classes := f_y8_classes.step p130; replace f_y8_rules := f_y8_rules.step p130; replace f_y28 := f_y28.step p130; replace f_y43 := f_y43.step p130; replace f_y59 := f_y59.step p130; replace f_y127 := f_y127.step p130; clear p130 hs121
 refine Wp_region ?_
 refine Rg_op rfl (op_loadA (cs := [(Value.slice a_y8_volumes example_1.volumes.length c_y8_volumes), (Value.slice a_y8_sectors example_1.sectors.length c_y8_sectors), (Value.slice a_y8_configs example_1.configs.length c_y8_configs), (Value.slice a_y8_segments example_1.segments.length c_y8_segments), (Value.slice a_y8_routes example_1.routes.length c_y8_routes), (Value.slice a_y8_airports example_1.airports.length c_y8_airports), (Value.slice a_y8_classes example_1.classes.length c_y8_classes), (Value.slice a_y8_rules example_1.rules.length c_y8_rules)]) (vs := [(Value.slice a_y8_volumes example_1.volumes.length c_y8_volumes), (Value.slice a_y8_sectors example_1.sectors.length c_y8_sectors), (Value.slice a_y8_configs example_1.configs.length c_y8_configs), (Value.slice a_y8_segments example_1.segments.length c_y8_segments), (Value.slice a_y8_routes example_1.routes.length c_y8_routes), (Value.slice a_y8_airports example_1.airports.length c_y8_airports), (Value.slice a_y8_classes example_1.classes.length c_y8_classes), (Value.slice a_y8_rules example_1.rules.length c_y8_rules)]) (i := 0) ty31 hs129 rfl rfl rfl rfl ?_)
 replace hm := bd hm; obtain ⟨sector_1, hv131, hm⟩ := hm
 refine Rg_op rfl (op_call Try.call13 (c13_configs_Sector (a := example_1) (konfig := 2) (volume := 0) hs129.ltw f_y8_volumes f_y8_sectors f_y8_configs f_y8_segments f_y8_routes f_y8_airports f_y8_classes f_y8_rules (show InK .i64 2 from by decide) (show InK .i64 0 from by decide) hv131) rfl ?_)
 rintro v132 w133 ⟨hx134, h135⟩
 have hs136 := hs129.call hx134
 have p137 := Step.ext (O := ks [(some b9, Obj.cells [(Value.slice a_y8_volumes example_1.volumes.length c_y8_volumes), (Value.slice a_y8_sectors example_1.sectors.length c_y8_sectors), (Value.slice a_y8_configs example_1.configs.length c_y8_configs), (Value.slice a_y8_segments example_1.segments.length c_y8_segments), (Value.slice a_y8_routes example_1.routes.length c_y8_routes), (Value.slice a_y8_airports example_1.airports.length c_y8_airports), (Value.slice a_y8_classes example_1.classes.length c_y8_classes), (Value.slice a_y8_rules example_1.rules.length c_y8_rules)].toArray 31)] O) hx134
 clear hx134
 replace f_y8_volumes := f_y8_volumes.step p137; replace f_y8_sectors := f_y8_sectors.step p137; replace f_y8_configs := f_y8_configs.step p137; replace f_y8_segments := f_y8_segments.step p137; replace f_y8_routes := f_y8_routes.step p137; replace f_y8_airports := f_y8_airports.step p137; replace f_y8_classes := f_y8_classes.step p137; replace f_y8_rules := f_y8_rules.step p137; replace f_y28 := f_y28.step p137; replace f_y43 := f_y43.step p137; replace f_y59 := f_y59.step p137; replace f_y127 := f_y127.step p137; clear p137 hs129
 obtain ⟨v138, v139, rfl, h140, h141⟩ := h135
 obtain ⟨rfl, r_y142⟩ := h140
 obtain rfl := h141
 refine Rg_op rfl (op_move (v := (Value.tuple [(Value.int .i64 sector_1.1), (Value.bool sector_1.2)].toArray)) rfl ?_)
 refine Rg_op rfl (op_extract (v := (Value.int .i64 sector_1.1)) rfl rfl ?_)
 refine Rg_op rfl (op_extract (v := (Value.bool sector_1.2)) rfl rfl ?_)
 refine Rg_op rfl (op_assign (v := (Value.int .i64 sector_1.1)) rfl ?_)
 refine Rg_op rfl (op_assign (v := (Value.bool sector_1.2)) rfl ?_)
 refine Rg_nil ?_
 refine Wp_seq ?_
 refine Wp_region ?_
 refine Rg_op rfl (op_build (vs := [(Value.slice none 0 0), (Value.slice none 0 0), (Value.slice none 0 0), (Value.slice none 0 0), (Value.slice none 0 0), (Value.slice none 0 0), (Value.slice none 0 0), (Value.slice none 0 0)]) (parts := []) ty31 pl31 rfl ?_)
 replace hm := bd hm; obtain ⟨sector_2, hv144, hm⟩ := hm
 refine Rg_op rfl (op_call Try.call13 (c13_configs_Sector (a := (⟨([] : List XVolume), ([] : List XSector), ([] : List XConfig), ([] : List XSegment), ([] : List XRoute), ([] : List XAirport), ([] : List XClass), ([] : List XRule)⟩ : XAirspace)) (konfig := 0) (volume := 0) hs136.ltw SlR.nil_ SlR.nil_ SlR.nil_ SlR.nil_ SlR.nil_ SlR.nil_ SlR.nil_ SlR.nil_ (show InK .i64 0 from by decide) (show InK .i64 0 from by decide) hv144) rfl ?_)
 rintro v145 w146 ⟨hx147, h148⟩
 have hs149 := hs136.call hx147
 have p150 := Step.ext (O := ks [(some b9, Obj.cells [(Value.slice a_y8_volumes example_1.volumes.length c_y8_volumes), (Value.slice a_y8_sectors example_1.sectors.length c_y8_sectors), (Value.slice a_y8_configs example_1.configs.length c_y8_configs), (Value.slice a_y8_segments example_1.segments.length c_y8_segments), (Value.slice a_y8_routes example_1.routes.length c_y8_routes), (Value.slice a_y8_airports example_1.airports.length c_y8_airports), (Value.slice a_y8_classes example_1.classes.length c_y8_classes), (Value.slice a_y8_rules example_1.rules.length c_y8_rules)].toArray 31)] O) hx147
 clear hx147
 replace f_y8_volumes := f_y8_volumes.step p150; replace f_y8_sectors := f_y8_sectors.step p150; replace f_y8_configs := f_y8_configs.step p150; replace f_y8_segments := f_y8_segments.step p150; replace f_y8_routes := f_y8_routes.step p150; replace f_y8_airports := f_y8_airports.step p150; replace f_y8_classes := f_y8_classes.step p150; replace f_y8_rules := f_y8_rules.step p150; replace f_y28 := f_y28.step p150; replace f_y43 := f_y43.step p150; replace f_y59 := f_y59.step p150; replace f_y127 := f_y127.step p150; clear p150 hs136
 obtain ⟨v151, v152, rfl, h153, h154⟩ := h148
 obtain ⟨rfl, r_y155⟩ := h153
 obtain rfl := h154
 refine Rg_op rfl (op_move (v := (Value.tuple [(Value.int .i64 sector_2.1), (Value.bool sector_2.2)].toArray)) rfl ?_)
 refine Rg_op rfl (op_extract (v := (Value.int .i64 sector_2.1)) rfl rfl ?_)
 refine Rg_op rfl (op_extract (v := (Value.bool sector_2.2)) rfl rfl ?_)
 refine Rg_op rfl (op_assign (v := (Value.int .i64 sector_2.1)) rfl ?_)
 refine Rg_op rfl (op_assign (v := (Value.bool sector_2.2)) rfl ?_)
 refine Rg_nil ?_
 refine Wp_reset [] [(1, (Value.pointer (some ⟨b9, 0, none⟩))), (2, (Value.slice a_y28 reach_1.1.length c_y28)), (3, (Value.int .i64 reach_1.2)), (4, (Value.slice a_y43 path_1.1.length c_y43)), (5, (Value.bool path_1.2.1)), (6, (Value.int .i64 path_1.2.2)), (7, (Value.slice a_y59 path_2.1.length c_y59)), (8, (Value.bool path_2.2.1)), (9, (Value.int .i64 path_2.2.2)), (10, (Value.int .i64 stuck_1.1)), (11, (Value.int .i64 stuck_1.2.1)), (12, (Value.bool stuck_1.2.2.1)), (13, (Value.int .i64 stuck_1.2.2.2)), (15, (Value.int .i64 stuck_2.1)), (16, (Value.int .i64 stuck_2.2.1)), (17, (Value.bool stuck_2.2.2.1)), (18, (Value.int .i64 stuck_2.2.2.2)), (19, (Value.slice a_y127 reach_2.1.length c_y127)), (20, (Value.int .i64 reach_2.2)), (21, (Value.int .i64 sector_1.1)), (22, (Value.bool sector_1.2)), (24, (Value.bool sector_2.2))] rfl ⟨rfl, rfl, rfl, rfl, rfl, rfl, rfl, rfl, rfl, rfl, rfl, rfl, rfl, rfl, rfl, rfl, rfl, rfl, rfl, rfl, rfl, rfl, trivial⟩ fun ξ157 => ?_
 replace hm := jn_elim hm; obtain ⟨k159, hk160, hm⟩ := hm
 refine Wp_seqJ [25, 78, 79, 80, 81, 82, 83, 84, 85, 86, 87, 88, 89, 90, 91, 92, 93, 94, 95, 96, 97, 98, 99, 100, 101, 102, 103, 104, 105, 106, 107, 108, 109, 110, 111, 112, 113, 114, 115, 116, 117, 118, 119, 120, 121, 122, 123, 124] (fun fr w' => ∃ (good_1 : Bool) (Ebs : Ents), Ebs = [(some b9, Obj.cells [(Value.slice a_y8_volumes example_1.volumes.length c_y8_volumes), (Value.slice a_y8_sectors example_1.sectors.length c_y8_sectors), (Value.slice a_y8_configs example_1.configs.length c_y8_configs), (Value.slice a_y8_segments example_1.segments.length c_y8_segments), (Value.slice a_y8_routes example_1.routes.length c_y8_routes), (Value.slice a_y8_airports example_1.airports.length c_y8_airports), (Value.slice a_y8_classes example_1.classes.length c_y8_classes), (Value.slice a_y8_rules example_1.rules.length c_y8_rules)].toArray 31)] ∧ fr [] [(25, (Value.bool good_1))] ∧ Step (ks [(some b9, Obj.cells [(Value.slice a_y8_volumes example_1.volumes.length c_y8_volumes), (Value.slice a_y8_sectors example_1.sectors.length c_y8_sectors), (Value.slice a_y8_configs example_1.configs.length c_y8_configs), (Value.slice a_y8_segments example_1.segments.length c_y8_segments), (Value.slice a_y8_routes example_1.routes.length c_y8_routes), (Value.slice a_y8_airports example_1.airports.length c_y8_airports), (Value.slice a_y8_classes example_1.classes.length c_y8_classes), (Value.slice a_y8_rules example_1.rules.length c_y8_rules)].toArray 31)] O) w146 (ks Ebs O) w' ∧ St ⟨w, [], []⟩ O w' Ebs ∧ k159 good_1 = some x) ?_ ?_
 ·
  rintro ρ166 w162 ⟨good_1, Ebs, hEbs, hfr165, hst164, hs163, hm⟩
  replace hm := jnE1 hk160 hm
  subst hEbs; rw [hfr165.eq]; clear hfr165
  replace f_y8_volumes := f_y8_volumes.step hst164; replace f_y8_sectors := f_y8_sectors.step hst164; replace f_y8_configs := f_y8_configs.step hst164; replace f_y8_segments := f_y8_segments.step hst164; replace f_y8_routes := f_y8_routes.step hst164; replace f_y8_airports := f_y8_airports.step hst164; replace f_y8_classes := f_y8_classes.step hst164; replace f_y8_rules := f_y8_rules.step hst164; replace f_y28 := f_y28.step hst164; replace f_y43 := f_y43.step hst164; replace f_y59 := f_y59.step hst164; replace f_y127 := f_y127.step hst164; clear hst164 hs149
  refine Wp_reset [] [(1, (Value.pointer (some ⟨b9, 0, none⟩))), (15, (Value.int .i64 stuck_2.1)), (16, (Value.int .i64 stuck_2.2.1)), (17, (Value.bool stuck_2.2.2.1)), (18, (Value.int .i64 stuck_2.2.2.2)), (19, (Value.slice a_y127 reach_2.1.length c_y127)), (20, (Value.int .i64 reach_2.2)), (21, (Value.int .i64 sector_1.1)), (22, (Value.bool sector_1.2)), (24, (Value.bool sector_2.2)), (25, (Value.bool good_1))] rfl ⟨rfl, rfl, rfl, rfl, rfl, rfl, rfl, rfl, rfl, rfl, rfl, trivial⟩ fun ξ167 => ?_
  replace hm := jn_elim hm; obtain ⟨k169, hk170, hm⟩ := hm
  refine Wp_seqJ [0, 125, 126, 127, 128, 129, 130, 131, 132, 133, 134, 135, 136, 137, 138, 139, 140, 141, 142, 143, 144, 145, 146, 147, 148, 149, 150, 151, 152, 153, 154, 155, 156, 157, 158, 159, 160, 161, 162, 163, 164, 165, 166, 167, 168, 169, 170, 171, 172, 173, 174, 175, 176, 177, 178, 179, 180, 181, 182, 183, 184] (fun fr w' => ∃ (v_1 : Bool) (Ebs : Ents), Ebs = [(some b9, Obj.cells [(Value.slice a_y8_volumes example_1.volumes.length c_y8_volumes), (Value.slice a_y8_sectors example_1.sectors.length c_y8_sectors), (Value.slice a_y8_configs example_1.configs.length c_y8_configs), (Value.slice a_y8_segments example_1.segments.length c_y8_segments), (Value.slice a_y8_routes example_1.routes.length c_y8_routes), (Value.slice a_y8_airports example_1.airports.length c_y8_airports), (Value.slice a_y8_classes example_1.classes.length c_y8_classes), (Value.slice a_y8_rules example_1.rules.length c_y8_rules)].toArray 31)] ∧ fr [] [(0, (Value.bool v_1))] ∧ Step (ks [(some b9, Obj.cells [(Value.slice a_y8_volumes example_1.volumes.length c_y8_volumes), (Value.slice a_y8_sectors example_1.sectors.length c_y8_sectors), (Value.slice a_y8_configs example_1.configs.length c_y8_configs), (Value.slice a_y8_segments example_1.segments.length c_y8_segments), (Value.slice a_y8_routes example_1.routes.length c_y8_routes), (Value.slice a_y8_airports example_1.airports.length c_y8_airports), (Value.slice a_y8_classes example_1.classes.length c_y8_classes), (Value.slice a_y8_rules example_1.rules.length c_y8_rules)].toArray 31)] O) w162 (ks Ebs O) w' ∧ St ⟨w, [], []⟩ O w' Ebs ∧ k169 v_1 = some x) ?_ ?_
  ·
   rintro ρ176 w172 ⟨v_1, Ebs, hEbs, hfr175, hst174, hs173, hm⟩
   replace hm := jnE1 hk170 hm
   subst hEbs; rw [hfr175.eq]; clear hfr175
   replace f_y8_volumes := f_y8_volumes.step hst174; replace f_y8_sectors := f_y8_sectors.step hst174; replace f_y8_configs := f_y8_configs.step hst174; replace f_y8_segments := f_y8_segments.step hst174; replace f_y8_routes := f_y8_routes.step hst174; replace f_y8_airports := f_y8_airports.step hst174; replace f_y8_classes := f_y8_classes.step hst174; replace f_y8_rules := f_y8_rules.step hst174; replace f_y28 := f_y28.step hst174; replace f_y43 := f_y43.step hst174; replace f_y59 := f_y59.step hst174; replace f_y127 := f_y127.step hst174; clear hst174 hs163
   refine Wp_ret ?_
   have hz := step_all hs173
   replace f_y8_volumes := f_y8_volumes.step hz; replace f_y8_sectors := f_y8_sectors.step hz; replace f_y8_configs := f_y8_configs.step hz; replace f_y8_segments := f_y8_segments.step hz; replace f_y8_routes := f_y8_routes.step hz; replace f_y8_airports := f_y8_airports.step hz; replace f_y8_classes := f_y8_classes.step hz; replace f_y8_rules := f_y8_rules.step hz; replace f_y28 := f_y28.step hz; replace f_y43 := f_y43.step hz; replace f_y59 := f_y59.step hz; replace f_y127 := f_y127.step hz
   refine ⟨_, (show Closes [] _ _ from rfl), [(Value.bool v_1)], ⟨rfl, trivial⟩, hs173.ext, ?_⟩
   exact Vr.eq (a := vB) (x := v_1) rfl (Option.some.inj hm)
  ·
   intro K171 hK171
   have ch177 := Step.refl (ks [(some b9, Obj.cells [(Value.slice a_y8_volumes example_1.volumes.length c_y8_volumes), (Value.slice a_y8_sectors example_1.sectors.length c_y8_sectors), (Value.slice a_y8_configs example_1.configs.length c_y8_configs), (Value.slice a_y8_segments example_1.segments.length c_y8_segments), (Value.slice a_y8_routes example_1.routes.length c_y8_routes), (Value.slice a_y8_airports example_1.airports.length c_y8_airports), (Value.slice a_y8_classes example_1.classes.length c_y8_classes), (Value.slice a_y8_rules example_1.rules.length c_y8_rules)].toArray 31)] O) w162
   clear f_y28 f_y43 f_y59
   refine Wp_region ?_
   refine Rg_op rfl (op_move (v := (Value.bool good_1)) rfl ?_)
   refine Rg_op rfl (op_move (v := (Value.bool good_1)) rfl ?_)
   refine Rg_case (fun hg178 => ?_) (fun hg178 => ?_)
   ·
    replace hm := bif_t hm hg178
    refine Rg_opg rfl rfl rfl (op_move (v := (Value.int .i64 stuck_2.2.2.2)) rfl ?_)
    refine Rg_opg rfl rfl rfl (op_eql rfl rfl ?_)
    refine Rg_op rfl (op_pick_t (v := (Value.bool (decide (stuck_2.2.2.2 = 0)))) rfl rfl ?_)
    refine Rg_op rfl (op_move (v := (Value.bool (decide (stuck_2.2.2.2 = 0)))) rfl ?_)
    refine Rg_case (fun hg179 => ?_) (fun hg179 => ?_)
    ·
     replace hm := bif_t hm hg179
     refine Rg_opg rfl rfl rfl (op_move (v := (Value.bool stuck_2.2.2.1)) rfl ?_)
     refine Rg_op rfl (op_pick_t (v := (Value.bool stuck_2.2.2.1)) rfl rfl ?_)
     refine Rg_op rfl (op_move (v := (Value.bool stuck_2.2.2.1)) rfl ?_)
     refine Rg_case (fun hg180 => ?_) (fun hg180 => ?_)
     ·
      replace hm := bif_t hm hg180
      refine Rg_opg rfl rfl rfl (op_move (v := (Value.int .i64 stuck_2.1)) rfl ?_)
      refine Rg_opg rfl rfl rfl (op_eql rfl rfl ?_)
      refine Rg_op rfl (op_pick_t (v := (Value.bool (decide (stuck_2.1 = 0)))) rfl rfl ?_)
      refine Rg_op rfl (op_move (v := (Value.bool (decide (stuck_2.1 = 0)))) rfl ?_)
      refine Rg_case (fun hg181 => ?_) (fun hg181 => ?_)
      ·
       replace hm := bif_t hm hg181
       refine Rg_opg rfl rfl rfl (op_move (v := (Value.int .i64 stuck_2.2.1)) rfl ?_)
       refine Rg_opg rfl rfl rfl (op_eql rfl rfl ?_)
       refine Rg_op rfl (op_pick_t (v := (Value.bool (decide (stuck_2.2.1 = 1)))) rfl rfl ?_)
       refine Rg_op rfl (op_move (v := (Value.bool (decide (stuck_2.2.1 = 1)))) rfl ?_)
       refine Rg_case (fun hg182 => ?_) (fun hg182 => ?_)
       ·
        replace hm := bif_t hm hg182
        refine Rg_opg rfl rfl rfl (op_move (v := (Value.int .i64 reach_2.2)) rfl ?_)
        refine Rg_opg rfl rfl rfl (op_eql rfl rfl ?_)
        refine Rg_op rfl (op_pick_t (v := (Value.bool (decide (reach_2.2 = 0)))) rfl rfl ?_)
        refine Rg_op rfl (op_move (v := (Value.bool (decide (reach_2.2 = 0)))) rfl ?_)
        refine Rg_case (fun hg183 => ?_) (fun hg183 => ?_)
        ·
         replace hm := bif_t hm hg183
         refine Rg_opg rfl rfl rfl (op_move (v := (Value.slice a_y127 reach_2.1.length c_y127)) rfl ?_)
         refine Rg_opg rfl rfl rfl (op_buildSlice (cs := [(Value.int .i64 1)]) (parts := [(0, .const (.int .i64 1))]) ty39 ty3 hs163 (by decide) rfl ?_)
         intro b184 w185 hx188 p186 hs187
         replace f_y8_volumes := f_y8_volumes.step p186; replace f_y8_sectors := f_y8_sectors.step p186; replace f_y8_configs := f_y8_configs.step p186; replace f_y8_segments := f_y8_segments.step p186; replace f_y8_routes := f_y8_routes.step p186; replace f_y8_airports := f_y8_airports.step p186; replace f_y8_classes := f_y8_classes.step p186; replace f_y8_rules := f_y8_rules.step p186; replace f_y127 := f_y127.step p186; replace ch177 := ch177.trans p186; clear p186 hs163
         obtain ⟨hs191, p192, f190⟩ := St.publish (i := 0) (o := 0) (c := 1) (xs := [1]) hs187 rfl (show Els (rInt .i64) _ _ [(Value.int .i64 1)] [1] from ⟨_, _, rfl, (mk_int (show InK .i64 1 from by decide)), Els.nil⟩) (le_lit rfl) (le_lit rfl) (le_lit rfl)
         replace f_y8_volumes := f_y8_volumes.step p192; replace f_y8_sectors := f_y8_sectors.step p192; replace f_y8_configs := f_y8_configs.step p192; replace f_y8_segments := f_y8_segments.step p192; replace f_y8_routes := f_y8_routes.step p192; replace f_y8_airports := f_y8_airports.step p192; replace f_y8_classes := f_y8_classes.step p192; replace f_y8_rules := f_y8_rules.step p192; replace f_y127 := f_y127.step p192; replace ch177 := ch177.trans p192; clear p192 hs187
         replace hm := bd hm; obtain ⟨sameints_1, hv193, hm⟩ := hm
         refine Rg_opg rfl rfl rfl (op_call Try.call21 (c21_overflightref10_SameInts (a := reach_2.1) (b := [1]) hs191.ltw f_y127 f190 hv193) rfl ?_)
         rintro v194 w195 ⟨hx196, h197⟩
         have hs198 := hs191.call hx196
         have p199 := Step.ext (O := ks [(some b9, Obj.cells [(Value.slice a_y8_volumes example_1.volumes.length c_y8_volumes), (Value.slice a_y8_sectors example_1.sectors.length c_y8_sectors), (Value.slice a_y8_configs example_1.configs.length c_y8_configs), (Value.slice a_y8_segments example_1.segments.length c_y8_segments), (Value.slice a_y8_routes example_1.routes.length c_y8_routes), (Value.slice a_y8_airports example_1.airports.length c_y8_airports), (Value.slice a_y8_classes example_1.classes.length c_y8_classes), (Value.slice a_y8_rules example_1.rules.length c_y8_rules)].toArray 31)] O) hx196
         clear hx196
         replace f_y8_volumes := f_y8_volumes.step p199; replace f_y8_sectors := f_y8_sectors.step p199; replace f_y8_configs := f_y8_configs.step p199; replace f_y8_segments := f_y8_segments.step p199; replace f_y8_routes := f_y8_routes.step p199; replace f_y8_airports := f_y8_airports.step p199; replace f_y8_classes := f_y8_classes.step p199; replace f_y8_rules := f_y8_rules.step p199; replace f_y127 := f_y127.step p199; replace f190 := f190.step p199; replace ch177 := ch177.trans p199; clear p199 hs191
         obtain rfl := h197
         refine Rg_op rfl (op_pick_t (v := (Value.bool sameints_1)) rfl rfl ?_)
         refine Rg_op rfl (op_move (v := (Value.bool sameints_1)) rfl ?_)
         refine Rg_case (fun hg201 => ?_) (fun hg201 => ?_)
         ·
          replace hm := bif_t hm hg201
          refine Rg_opg rfl rfl rfl (op_move (v := (Value.bool sector_1.2)) rfl ?_)
          refine Rg_op rfl (op_pick_t (v := (Value.bool sector_1.2)) rfl rfl ?_)
          refine Rg_op rfl (op_move (v := (Value.bool sector_1.2)) rfl ?_)
          refine Rg_case (fun hg202 => ?_) (fun hg202 => ?_)
          ·
           replace hm := bif_t hm hg202
           refine Rg_opg rfl rfl rfl (op_move (v := (Value.int .i64 sector_1.1)) rfl ?_)
           refine Rg_opg rfl rfl rfl (op_eql rfl rfl ?_)
           refine Rg_op rfl (op_pick_t (v := (Value.bool (decide (sector_1.1 = 3)))) rfl rfl ?_)
           refine Rg_op rfl (op_move (v := (Value.bool (decide (sector_1.1 = 3)))) rfl ?_)
           refine Rg_case (fun hg203 => ?_) (fun hg203 => ?_)
           ·
            replace hm := bif_t hm hg203
            refine Rg_opg rfl rfl rfl (op_move (v := (Value.bool sector_2.2)) rfl ?_)
            refine Rg_opg rfl rfl rfl (op_not rfl ?_)
            refine Rg_op rfl (op_pick_t (v := (Value.bool (!sector_2.2))) rfl rfl ?_)
            refine Rg_op rfl (op_move (v := (Value.bool (!sector_2.2))) rfl ?_)
            refine Rg_case (fun hg204 => ?_) (fun hg204 => ?_)
            ·
             replace hm := bif_t hm hg204
             refine Rg_opg rfl rfl rfl (op_loadA (cs := [(Value.slice a_y8_volumes example_1.volumes.length c_y8_volumes), (Value.slice a_y8_sectors example_1.sectors.length c_y8_sectors), (Value.slice a_y8_configs example_1.configs.length c_y8_configs), (Value.slice a_y8_segments example_1.segments.length c_y8_segments), (Value.slice a_y8_routes example_1.routes.length c_y8_routes), (Value.slice a_y8_airports example_1.airports.length c_y8_airports), (Value.slice a_y8_classes example_1.classes.length c_y8_classes), (Value.slice a_y8_rules example_1.rules.length c_y8_rules)]) (vs := [(Value.slice a_y8_volumes example_1.volumes.length c_y8_volumes), (Value.slice a_y8_sectors example_1.sectors.length c_y8_sectors), (Value.slice a_y8_configs example_1.configs.length c_y8_configs), (Value.slice a_y8_segments example_1.segments.length c_y8_segments), (Value.slice a_y8_routes example_1.routes.length c_y8_routes), (Value.slice a_y8_airports example_1.airports.length c_y8_airports), (Value.slice a_y8_classes example_1.classes.length c_y8_classes), (Value.slice a_y8_rules example_1.rules.length c_y8_rules)]) (i := 0) ty31 hs198 rfl rfl rfl rfl ?_)
             replace hm := bd hm; obtain ⟨check_1, hv205, hm⟩ := hm
             refine Rg_opg rfl rfl rfl (op_call Try.call15 (c15_configs_Check (a := example_1) hs198.ltw f_y8_volumes f_y8_sectors f_y8_configs f_y8_segments f_y8_routes f_y8_airports f_y8_classes f_y8_rules hv205) rfl ?_)
             rintro v206 w207 ⟨hx208, h209⟩
             have hs210 := hs198.call hx208
             have p211 := Step.ext (O := ks [(some b9, Obj.cells [(Value.slice a_y8_volumes example_1.volumes.length c_y8_volumes), (Value.slice a_y8_sectors example_1.sectors.length c_y8_sectors), (Value.slice a_y8_configs example_1.configs.length c_y8_configs), (Value.slice a_y8_segments example_1.segments.length c_y8_segments), (Value.slice a_y8_routes example_1.routes.length c_y8_routes), (Value.slice a_y8_airports example_1.airports.length c_y8_airports), (Value.slice a_y8_classes example_1.classes.length c_y8_classes), (Value.slice a_y8_rules example_1.rules.length c_y8_rules)].toArray 31)] O) hx208
             clear hx208
             replace f_y8_volumes := f_y8_volumes.step p211; replace f_y8_sectors := f_y8_sectors.step p211; replace f_y8_configs := f_y8_configs.step p211; replace f_y8_segments := f_y8_segments.step p211; replace f_y8_routes := f_y8_routes.step p211; replace f_y8_airports := f_y8_airports.step p211; replace f_y8_classes := f_y8_classes.step p211; replace f_y8_rules := f_y8_rules.step p211; replace f_y127 := f_y127.step p211; replace f190 := f190.step p211; replace ch177 := ch177.trans p211; clear p211 hs198
             obtain ⟨rfl, r_y212⟩ := h209
             refine Rg_opg rfl rfl rfl (op_eql rfl rfl ?_)
             refine Rg_op rfl (op_pick_t (v := (Value.bool (decide (check_1 = 0)))) rfl rfl ?_)
             refine Rg_op rfl (op_move (v := (Value.bool (decide (check_1 = 0)))) rfl ?_)
             refine Rg_case (fun hg213 => ?_) (fun hg213 => ?_)
             ·
              replace hm := bif_t hm hg213
              refine Rg_opg rfl rfl rfl (op_build (vs := [(Value.slice none 0 0), (Value.slice none 0 0), (Value.slice none 0 0), (Value.slice none 0 0), (Value.slice none 0 0), (Value.slice none 0 0), (Value.slice none 0 0), (Value.slice none 0 0)]) (parts := []) ty31 pl31 rfl ?_)
              replace hm := bd hm; obtain ⟨check_2, hv214, hm⟩ := hm
              refine Rg_opg rfl rfl rfl (op_call Try.call15 (c15_configs_Check (a := (⟨([] : List XVolume), ([] : List XSector), ([] : List XConfig), ([] : List XSegment), ([] : List XRoute), ([] : List XAirport), ([] : List XClass), ([] : List XRule)⟩ : XAirspace)) hs210.ltw SlR.nil_ SlR.nil_ SlR.nil_ SlR.nil_ SlR.nil_ SlR.nil_ SlR.nil_ SlR.nil_ hv214) rfl ?_)
              rintro v215 w216 ⟨hx217, h218⟩
              have hs219 := hs210.call hx217
              have p220 := Step.ext (O := ks [(some b9, Obj.cells [(Value.slice a_y8_volumes example_1.volumes.length c_y8_volumes), (Value.slice a_y8_sectors example_1.sectors.length c_y8_sectors), (Value.slice a_y8_configs example_1.configs.length c_y8_configs), (Value.slice a_y8_segments example_1.segments.length c_y8_segments), (Value.slice a_y8_routes example_1.routes.length c_y8_routes), (Value.slice a_y8_airports example_1.airports.length c_y8_airports), (Value.slice a_y8_classes example_1.classes.length c_y8_classes), (Value.slice a_y8_rules example_1.rules.length c_y8_rules)].toArray 31)] O) hx217
              clear hx217
              replace f_y8_volumes := f_y8_volumes.step p220; replace f_y8_sectors := f_y8_sectors.step p220; replace f_y8_configs := f_y8_configs.step p220; replace f_y8_segments := f_y8_segments.step p220; replace f_y8_routes := f_y8_routes.step p220; replace f_y8_airports := f_y8_airports.step p220; replace f_y8_classes := f_y8_classes.step p220; replace f_y8_rules := f_y8_rules.step p220; replace f_y127 := f_y127.step p220; replace f190 := f190.step p220; replace ch177 := ch177.trans p220; clear p220 hs210
              obtain ⟨rfl, r_y221⟩ := h218
              refine Rg_opg rfl rfl rfl (op_eql rfl rfl ?_)
              refine Rg_op rfl (op_pick_t (v := (Value.bool (decide (check_2 = 100)))) rfl rfl ?_)
              refine Rg_op rfl (op_move (v := (Value.bool (decide (check_2 = 100)))) rfl ?_)
              refine Rg_case (fun hg222 => ?_) (fun hg222 => ?_)
              ·
               replace hm := bif_t hm hg222
               refine Rg_opg rfl rfl rfl (op_loadA (cs := [(Value.slice a_y8_volumes example_1.volumes.length c_y8_volumes), (Value.slice a_y8_sectors example_1.sectors.length c_y8_sectors), (Value.slice a_y8_configs example_1.configs.length c_y8_configs), (Value.slice a_y8_segments example_1.segments.length c_y8_segments), (Value.slice a_y8_routes example_1.routes.length c_y8_routes), (Value.slice a_y8_airports example_1.airports.length c_y8_airports), (Value.slice a_y8_classes example_1.classes.length c_y8_classes), (Value.slice a_y8_rules example_1.rules.length c_y8_rules)]) (vs := [(Value.slice a_y8_volumes example_1.volumes.length c_y8_volumes), (Value.slice a_y8_sectors example_1.sectors.length c_y8_sectors), (Value.slice a_y8_configs example_1.configs.length c_y8_configs), (Value.slice a_y8_segments example_1.segments.length c_y8_segments), (Value.slice a_y8_routes example_1.routes.length c_y8_routes), (Value.slice a_y8_airports example_1.airports.length c_y8_airports), (Value.slice a_y8_classes example_1.classes.length c_y8_classes), (Value.slice a_y8_rules example_1.rules.length c_y8_rules)]) (i := 0) ty31 hs219 rfl rfl rfl rfl ?_)
               replace hm := bd hm; obtain ⟨step_1, hv223, hm⟩ := hm
               refine Rg_opg rfl rfl rfl (op_call Try.call19 (c19_configs_Step (a := example_1) (from_ := 0) (to := 2) hs219.ltw f_y8_volumes f_y8_sectors f_y8_configs f_y8_segments f_y8_routes f_y8_airports f_y8_classes f_y8_rules (show InK .i64 0 from by decide) (show InK .i64 2 from by decide) hv223) rfl ?_)
               rintro v224 w225 ⟨hx226, h227⟩
               have hs228 := hs219.call hx226
               have p229 := Step.ext (O := ks [(some b9, Obj.cells [(Value.slice a_y8_volumes example_1.volumes.length c_y8_volumes), (Value.slice a_y8_sectors example_1.sectors.length c_y8_sectors), (Value.slice a_y8_configs example_1.configs.length c_y8_configs), (Value.slice a_y8_segments example_1.segments.length c_y8_segments), (Value.slice a_y8_routes example_1.routes.length c_y8_routes), (Value.slice a_y8_airports example_1.airports.length c_y8_airports), (Value.slice a_y8_classes example_1.classes.length c_y8_classes), (Value.slice a_y8_rules example_1.rules.length c_y8_rules)].toArray 31)] O) hx226
               clear hx226
               replace f_y8_volumes := f_y8_volumes.step p229; replace f_y8_sectors := f_y8_sectors.step p229; replace f_y8_configs := f_y8_configs.step p229; replace f_y8_segments := f_y8_segments.step p229; replace f_y8_routes := f_y8_routes.step p229; replace f_y8_airports := f_y8_airports.step p229; replace f_y8_classes := f_y8_classes.step p229; replace f_y8_rules := f_y8_rules.step p229; replace f_y127 := f_y127.step p229; replace f190 := f190.step p229; replace ch177 := ch177.trans p229; clear p229 hs219
               obtain rfl := h227
               refine Rg_op rfl (op_pick_t (v := (Value.bool step_1)) rfl rfl ?_)
               refine Rg_op rfl (op_move (v := (Value.bool step_1)) rfl ?_)
               refine Rg_case (fun hg231 => ?_) (fun hg231 => ?_)
               ·
                replace hm := bif_t hm hg231
                refine Rg_opg rfl rfl rfl (op_loadA (cs := [(Value.slice a_y8_volumes example_1.volumes.length c_y8_volumes), (Value.slice a_y8_sectors example_1.sectors.length c_y8_sectors), (Value.slice a_y8_configs example_1.configs.length c_y8_configs), (Value.slice a_y8_segments example_1.segments.length c_y8_segments), (Value.slice a_y8_routes example_1.routes.length c_y8_routes), (Value.slice a_y8_airports example_1.airports.length c_y8_airports), (Value.slice a_y8_classes example_1.classes.length c_y8_classes), (Value.slice a_y8_rules example_1.rules.length c_y8_rules)]) (vs := [(Value.slice a_y8_volumes example_1.volumes.length c_y8_volumes), (Value.slice a_y8_sectors example_1.sectors.length c_y8_sectors), (Value.slice a_y8_configs example_1.configs.length c_y8_configs), (Value.slice a_y8_segments example_1.segments.length c_y8_segments), (Value.slice a_y8_routes example_1.routes.length c_y8_routes), (Value.slice a_y8_airports example_1.airports.length c_y8_airports), (Value.slice a_y8_classes example_1.classes.length c_y8_classes), (Value.slice a_y8_rules example_1.rules.length c_y8_rules)]) (i := 0) ty31 hs228 rfl rfl rfl rfl ?_)
                replace hm := bd hm; obtain ⟨step_2, hv232, hm⟩ := hm
                refine Rg_opg rfl rfl rfl (op_call Try.call19 (c19_configs_Step (a := example_1) (from_ := 0) (to := 1) hs228.ltw f_y8_volumes f_y8_sectors f_y8_configs f_y8_segments f_y8_routes f_y8_airports f_y8_classes f_y8_rules (show InK .i64 0 from by decide) (show InK .i64 1 from by decide) hv232) rfl ?_)
                rintro v233 w234 ⟨hx235, h236⟩
                have hs237 := hs228.call hx235
                have p238 := Step.ext (O := ks [(some b9, Obj.cells [(Value.slice a_y8_volumes example_1.volumes.length c_y8_volumes), (Value.slice a_y8_sectors example_1.sectors.length c_y8_sectors), (Value.slice a_y8_configs example_1.configs.length c_y8_configs), (Value.slice a_y8_segments example_1.segments.length c_y8_segments), (Value.slice a_y8_routes example_1.routes.length c_y8_routes), (Value.slice a_y8_airports example_1.airports.length c_y8_airports), (Value.slice a_y8_classes example_1.classes.length c_y8_classes), (Value.slice a_y8_rules example_1.rules.length c_y8_rules)].toArray 31)] O) hx235
                clear hx235
                replace f_y8_volumes := f_y8_volumes.step p238; replace f_y8_sectors := f_y8_sectors.step p238; replace f_y8_configs := f_y8_configs.step p238; replace f_y8_segments := f_y8_segments.step p238; replace f_y8_routes := f_y8_routes.step p238; replace f_y8_airports := f_y8_airports.step p238; replace f_y8_classes := f_y8_classes.step p238; replace f_y8_rules := f_y8_rules.step p238; replace f_y127 := f_y127.step p238; replace f190 := f190.step p238; replace ch177 := ch177.trans p238; clear p238 hs228
                obtain rfl := h236
                refine Rg_opg rfl rfl rfl (op_not rfl ?_)
                refine Rg_op rfl (op_pick_t (v := (Value.bool (!step_2))) rfl rfl ?_)
                refine Rg_op rfl (op_move (v := (Value.bool (!step_2))) rfl ?_)
                refine Rg_case (fun hg240 => ?_) (fun hg240 => ?_)
                ·
                 replace hm := bif_t hm hg240
                 refine Rg_opg rfl rfl rfl (op_loadA (cs := [(Value.slice a_y8_volumes example_1.volumes.length c_y8_volumes), (Value.slice a_y8_sectors example_1.sectors.length c_y8_sectors), (Value.slice a_y8_configs example_1.configs.length c_y8_configs), (Value.slice a_y8_segments example_1.segments.length c_y8_segments), (Value.slice a_y8_routes example_1.routes.length c_y8_routes), (Value.slice a_y8_airports example_1.airports.length c_y8_airports), (Value.slice a_y8_classes example_1.classes.length c_y8_classes), (Value.slice a_y8_rules example_1.rules.length c_y8_rules)]) (vs := [(Value.slice a_y8_volumes example_1.volumes.length c_y8_volumes), (Value.slice a_y8_sectors example_1.sectors.length c_y8_sectors), (Value.slice a_y8_configs example_1.configs.length c_y8_configs), (Value.slice a_y8_segments example_1.segments.length c_y8_segments), (Value.slice a_y8_routes example_1.routes.length c_y8_routes), (Value.slice a_y8_airports example_1.airports.length c_y8_airports), (Value.slice a_y8_classes example_1.classes.length c_y8_classes), (Value.slice a_y8_rules example_1.rules.length c_y8_rules)]) (i := 0) ty31 hs237 rfl rfl rfl rfl ?_)
                 replace hm := bd hm; obtain ⟨step_3, hv241, hm⟩ := hm
                 refine Rg_opg rfl rfl rfl (op_call Try.call19 (c19_configs_Step (a := example_1) (from_ := 0) (to := 0) hs237.ltw f_y8_volumes f_y8_sectors f_y8_configs f_y8_segments f_y8_routes f_y8_airports f_y8_classes f_y8_rules (show InK .i64 0 from by decide) (show InK .i64 0 from by decide) hv241) rfl ?_)
                 rintro v242 w243 ⟨hx244, h245⟩
                 have hs246 := hs237.call hx244
                 have p247 := Step.ext (O := ks [(some b9, Obj.cells [(Value.slice a_y8_volumes example_1.volumes.length c_y8_volumes), (Value.slice a_y8_sectors example_1.sectors.length c_y8_sectors), (Value.slice a_y8_configs example_1.configs.length c_y8_configs), (Value.slice a_y8_segments example_1.segments.length c_y8_segments), (Value.slice a_y8_routes example_1.routes.length c_y8_routes), (Value.slice a_y8_airports example_1.airports.length c_y8_airports), (Value.slice a_y8_classes example_1.classes.length c_y8_classes), (Value.slice a_y8_rules example_1.rules.length c_y8_rules)].toArray 31)] O) hx244
                 clear hx244
                 replace f_y8_volumes := f_y8_volumes.step p247; replace f_y8_sectors := f_y8_sectors.step p247; replace f_y8_configs := f_y8_configs.step p247; replace f_y8_segments := f_y8_segments.step p247; replace f_y8_routes := f_y8_routes.step p247; replace f_y8_airports := f_y8_airports.step p247; replace f_y8_classes := f_y8_classes.step p247; replace f_y8_rules := f_y8_rules.step p247; replace f_y127 := f_y127.step p247; replace f190 := f190.step p247; replace ch177 := ch177.trans p247; clear p247 hs237
                 obtain rfl := h245
                 refine Rg_opg rfl rfl rfl (op_not rfl ?_)
                 refine Rg_op rfl (op_pick_t (v := (Value.bool (!step_3))) rfl rfl ?_)
                 refine Rg_op rfl (op_assign (v := (Value.bool (!step_3))) rfl ?_)
                 refine Rg_nil ?_
                 exact hK171 _ _ ⟨(!step_3), _, rfl, ⟨(by repeat (first | with_reducible exact Out.refl _ _ | refine Out.upd ?_ rfl | refine Out.updL ?_ rfl | refine Out.mix' ?_ rfl | exact Out.refl _ _)), rfl, rfl, trivial⟩, ch177, hs246, hm⟩
                ·
                 replace hm := bif_f hm hg240
                 iterate 3 refine Rg_opx rfl (asB_ne rfl rfl) rfl ?_
                 refine Rg_op rfl (op_pick_f (v := (Value.bool false)) rfl rfl ?_)
                 refine Rg_op rfl (op_assign (v := (Value.bool false)) rfl ?_)
                 refine Rg_nil ?_
                 exact hK171 _ _ ⟨false, _, rfl, ⟨(by repeat (first | with_reducible exact Out.refl _ _ | refine Out.upd ?_ rfl | refine Out.updL ?_ rfl | refine Out.mix' ?_ rfl | exact Out.refl _ _)), rfl, rfl, trivial⟩, ch177, hs237, hm⟩
               ·
                replace hm := bif_f hm hg231
                iterate 3 refine Rg_opx rfl (asB_ne rfl rfl) rfl ?_
                refine Rg_op rfl (op_pick_f (v := (Value.bool false)) rfl rfl ?_)
                refine Rg_op rfl (op_move (v := (Value.bool false)) rfl ?_)
                iterate 3 refine Rg_opx rfl (asB_ne rfl rfl) rfl ?_
                refine Rg_op rfl (op_pick_f (v := (Value.bool false)) rfl rfl ?_)
                refine Rg_op rfl (op_assign (v := (Value.bool false)) rfl ?_)
                refine Rg_nil ?_
                exact hK171 _ _ ⟨false, _, rfl, ⟨(by repeat (first | with_reducible exact Out.refl _ _ | refine Out.upd ?_ rfl | refine Out.updL ?_ rfl | refine Out.mix' ?_ rfl | exact Out.refl _ _)), rfl, rfl, trivial⟩, ch177, hs228, hm⟩
              ·
               replace hm := bif_f hm hg222
               iterate 2 refine Rg_opx rfl (asB_ne rfl rfl) rfl ?_
               refine Rg_op rfl (op_pick_f (v := (Value.bool false)) rfl rfl ?_)
               refine Rg_op rfl (op_move (v := (Value.bool false)) rfl ?_)
               iterate 3 refine Rg_opx rfl (asB_ne rfl rfl) rfl ?_
               refine Rg_op rfl (op_pick_f (v := (Value.bool false)) rfl rfl ?_)
               refine Rg_op rfl (op_move (v := (Value.bool false)) rfl ?_)
               iterate 3 refine Rg_opx rfl (asB_ne rfl rfl) rfl ?_
               refine Rg_op rfl (op_pick_f (v := (Value.bool false)) rfl rfl ?_)
               refine Rg_op rfl (op_assign (v := (Value.bool false)) rfl ?_)
               refine Rg_nil ?_
               exact hK171 _ _ ⟨false, _, rfl, ⟨(by repeat (first | with_reducible exact Out.refl _ _ | refine Out.upd ?_ rfl | refine Out.updL ?_ rfl | refine Out.mix' ?_ rfl | exact Out.refl _ _)), rfl, rfl, trivial⟩, ch177, hs219, hm⟩
             ·
              replace hm := bif_f hm hg213
              iterate 3 refine Rg_opx rfl (asB_ne rfl rfl) rfl ?_
              refine Rg_op rfl (op_pick_f (v := (Value.bool false)) rfl rfl ?_)
              refine Rg_op rfl (op_move (v := (Value.bool false)) rfl ?_)
              iterate 2 refine Rg_opx rfl (asB_ne rfl rfl) rfl ?_
              refine Rg_op rfl (op_pick_f (v := (Value.bool false)) rfl rfl ?_)
              refine Rg_op rfl (op_move (v := (Value.bool false)) rfl ?_)
              iterate 3 refine Rg_opx rfl (asB_ne rfl rfl) rfl ?_
              refine Rg_op rfl (op_pick_f (v := (Value.bool false)) rfl rfl ?_)
              refine Rg_op rfl (op_move (v := (Value.bool false)) rfl ?_)
              iterate 3 refine Rg_opx rfl (asB_ne rfl rfl) rfl ?_
              refine Rg_op rfl (op_pick_f (v := (Value.bool false)) rfl rfl ?_)
              refine Rg_op rfl (op_assign (v := (Value.bool false)) rfl ?_)
              refine Rg_nil ?_
              exact hK171 _ _ ⟨false, _, rfl, ⟨(by repeat (first | with_reducible exact Out.refl _ _ | refine Out.upd ?_ rfl | refine Out.updL ?_ rfl | refine Out.mix' ?_ rfl | exact Out.refl _ _)), rfl, rfl, trivial⟩, ch177, hs210, hm⟩
            ·
             replace hm := bif_f hm hg204
             iterate 3 refine Rg_opx rfl (asB_ne rfl rfl) rfl ?_
             refine Rg_op rfl (op_pick_f (v := (Value.bool false)) rfl rfl ?_)
             refine Rg_op rfl (op_move (v := (Value.bool false)) rfl ?_)
             iterate 3 refine Rg_opx rfl (asB_ne rfl rfl) rfl ?_
             refine Rg_op rfl (op_pick_f (v := (Value.bool false)) rfl rfl ?_)
             refine Rg_op rfl (op_move (v := (Value.bool false)) rfl ?_)
             iterate 2 refine Rg_opx rfl (asB_ne rfl rfl) rfl ?_
             refine Rg_op rfl (op_pick_f (v := (Value.bool false)) rfl rfl ?_)
             refine Rg_op rfl (op_move (v := (Value.bool false)) rfl ?_)
             iterate 3 refine Rg_opx rfl (asB_ne rfl rfl) rfl ?_
             refine Rg_op rfl (op_pick_f (v := (Value.bool false)) rfl rfl ?_)
             refine Rg_op rfl (op_move (v := (Value.bool false)) rfl ?_)
             iterate 3 refine Rg_opx rfl (asB_ne rfl rfl) rfl ?_
             refine Rg_op rfl (op_pick_f (v := (Value.bool false)) rfl rfl ?_)
             refine Rg_op rfl (op_assign (v := (Value.bool false)) rfl ?_)
             refine Rg_nil ?_
             exact hK171 _ _ ⟨false, _, rfl, ⟨(by repeat (first | with_reducible exact Out.refl _ _ | refine Out.upd ?_ rfl | refine Out.updL ?_ rfl | refine Out.mix' ?_ rfl | exact Out.refl _ _)), rfl, rfl, trivial⟩, ch177, hs198, hm⟩
           ·
            replace hm := bif_f hm hg203
            iterate 2 refine Rg_opx rfl (asB_ne rfl rfl) rfl ?_
            refine Rg_op rfl (op_pick_f (v := (Value.bool false)) rfl rfl ?_)
            refine Rg_op rfl (op_move (v := (Value.bool false)) rfl ?_)
            iterate 3 refine Rg_opx rfl (asB_ne rfl rfl) rfl ?_
            refine Rg_op rfl (op_pick_f (v := (Value.bool false)) rfl rfl ?_)
            refine Rg_op rfl (op_move (v := (Value.bool false)) rfl ?_)
            iterate 3 refine Rg_opx rfl (asB_ne rfl rfl) rfl ?_
            refine Rg_op rfl (op_pick_f (v := (Value.bool false)) rfl rfl ?_)
            refine Rg_op rfl (op_move (v := (Value.bool false)) rfl ?_)
            iterate 2 refine Rg_opx rfl (asB_ne rfl rfl) rfl ?_
            refine Rg_op rfl (op_pick_f (v := (Value.bool false)) rfl rfl ?_)
            refine Rg_op rfl (op_move (v := (Value.bool false)) rfl ?_)
            iterate 3 refine Rg_opx rfl (asB_ne rfl rfl) rfl ?_
            refine Rg_op rfl (op_pick_f (v := (Value.bool false)) rfl rfl ?_)
            refine Rg_op rfl (op_move (v := (Value.bool false)) rfl ?_)
            iterate 3 refine Rg_opx rfl (asB_ne rfl rfl) rfl ?_
            refine Rg_op rfl (op_pick_f (v := (Value.bool false)) rfl rfl ?_)
            refine Rg_op rfl (op_assign (v := (Value.bool false)) rfl ?_)
            refine Rg_nil ?_
            exact hK171 _ _ ⟨false, _, rfl, ⟨(by repeat (first | with_reducible exact Out.refl _ _ | refine Out.upd ?_ rfl | refine Out.updL ?_ rfl | refine Out.mix' ?_ rfl | exact Out.refl _ _)), rfl, rfl, trivial⟩, ch177, hs198, hm⟩
          ·
           replace hm := bif_f hm hg202
           iterate 2 refine Rg_opx rfl (asB_ne rfl rfl) rfl ?_
           refine Rg_op rfl (op_pick_f (v := (Value.bool false)) rfl rfl ?_)
           refine Rg_op rfl (op_move (v := (Value.bool false)) rfl ?_)
           iterate 2 refine Rg_opx rfl (asB_ne rfl rfl) rfl ?_
           refine Rg_op rfl (op_pick_f (v := (Value.bool false)) rfl rfl ?_)
           refine Rg_op rfl (op_move (v := (Value.bool false)) rfl ?_)
           iterate 3 refine Rg_opx rfl (asB_ne rfl rfl) rfl ?_
           refine Rg_op rfl (op_pick_f (v := (Value.bool false)) rfl rfl ?_)
           refine Rg_op rfl (op_move (v := (Value.bool false)) rfl ?_)
           iterate 3 refine Rg_opx rfl (asB_ne rfl rfl) rfl ?_
           refine Rg_op rfl (op_pick_f (v := (Value.bool false)) rfl rfl ?_)
           refine Rg_op rfl (op_move (v := (Value.bool false)) rfl ?_)
           iterate 2 refine Rg_opx rfl (asB_ne rfl rfl) rfl ?_
           refine Rg_op rfl (op_pick_f (v := (Value.bool false)) rfl rfl ?_)
           refine Rg_op rfl (op_move (v := (Value.bool false)) rfl ?_)
           iterate 3 refine Rg_opx rfl (asB_ne rfl rfl) rfl ?_
           refine Rg_op rfl (op_pick_f (v := (Value.bool false)) rfl rfl ?_)
           refine Rg_op rfl (op_move (v := (Value.bool false)) rfl ?_)
           iterate 3 refine Rg_opx rfl (asB_ne rfl rfl) rfl ?_
           refine Rg_op rfl (op_pick_f (v := (Value.bool false)) rfl rfl ?_)
           refine Rg_op rfl (op_assign (v := (Value.bool false)) rfl ?_)
           refine Rg_nil ?_
           exact hK171 _ _ ⟨false, _, rfl, ⟨(by repeat (first | with_reducible exact Out.refl _ _ | refine Out.upd ?_ rfl | refine Out.updL ?_ rfl | refine Out.mix' ?_ rfl | exact Out.refl _ _)), rfl, rfl, trivial⟩, ch177, hs198, hm⟩
         ·
          replace hm := bif_f hm hg201
          refine Rg_opx rfl (asB_ne rfl rfl) rfl ?_
          refine Rg_op rfl (op_pick_f (v := (Value.bool false)) rfl rfl ?_)
          refine Rg_op rfl (op_move (v := (Value.bool false)) rfl ?_)
          iterate 2 refine Rg_opx rfl (asB_ne rfl rfl) rfl ?_
          refine Rg_op rfl (op_pick_f (v := (Value.bool false)) rfl rfl ?_)
          refine Rg_op rfl (op_move (v := (Value.bool false)) rfl ?_)
          iterate 2 refine Rg_opx rfl (asB_ne rfl rfl) rfl ?_
          refine Rg_op rfl (op_pick_f (v := (Value.bool false)) rfl rfl ?_)
          refine Rg_op rfl (op_move (v := (Value.bool false)) rfl ?_)
          iterate 3 refine Rg_opx rfl (asB_ne rfl rfl) rfl ?_
          refine Rg_op rfl (op_pick_f (v := (Value.bool false)) rfl rfl ?_)
          refine Rg_op rfl (op_move (v := (Value.bool false)) rfl ?_)
          iterate 3 refine Rg_opx rfl (asB_ne rfl rfl) rfl ?_
          refine Rg_op rfl (op_pick_f (v := (Value.bool false)) rfl rfl ?_)
          refine Rg_op rfl (op_move (v := (Value.bool false)) rfl ?_)
          iterate 2 refine Rg_opx rfl (asB_ne rfl rfl) rfl ?_
          refine Rg_op rfl (op_pick_f (v := (Value.bool false)) rfl rfl ?_)
          refine Rg_op rfl (op_move (v := (Value.bool false)) rfl ?_)
          iterate 3 refine Rg_opx rfl (asB_ne rfl rfl) rfl ?_
          refine Rg_op rfl (op_pick_f (v := (Value.bool false)) rfl rfl ?_)
          refine Rg_op rfl (op_move (v := (Value.bool false)) rfl ?_)
          iterate 3 refine Rg_opx rfl (asB_ne rfl rfl) rfl ?_
          refine Rg_op rfl (op_pick_f (v := (Value.bool false)) rfl rfl ?_)
          refine Rg_op rfl (op_assign (v := (Value.bool false)) rfl ?_)
          refine Rg_nil ?_
          exact hK171 _ _ ⟨false, _, rfl, ⟨(by repeat (first | with_reducible exact Out.refl _ _ | refine Out.upd ?_ rfl | refine Out.updL ?_ rfl | refine Out.mix' ?_ rfl | exact Out.refl _ _)), rfl, rfl, trivial⟩, ch177, hs198, hm⟩
        ·
         replace hm := bif_f hm hg183
         iterate 3 refine Rg_opx rfl (asB_ne rfl rfl) rfl ?_
         refine Rg_op rfl (op_pick_f (v := (Value.bool false)) rfl rfl ?_)
         refine Rg_op rfl (op_move (v := (Value.bool false)) rfl ?_)
         refine Rg_opx rfl (asB_ne rfl rfl) rfl ?_
         refine Rg_op rfl (op_pick_f (v := (Value.bool false)) rfl rfl ?_)
         refine Rg_op rfl (op_move (v := (Value.bool false)) rfl ?_)
         iterate 2 refine Rg_opx rfl (asB_ne rfl rfl) rfl ?_
         refine Rg_op rfl (op_pick_f (v := (Value.bool false)) rfl rfl ?_)
         refine Rg_op rfl (op_move (v := (Value.bool false)) rfl ?_)
         iterate 2 refine Rg_opx rfl (asB_ne rfl rfl) rfl ?_
         refine Rg_op rfl (op_pick_f (v := (Value.bool false)) rfl rfl ?_)
         refine Rg_op rfl (op_move (v := (Value.bool false)) rfl ?_)
         iterate 3 refine Rg_opx rfl (asB_ne rfl rfl) rfl ?_
         refine Rg_op rfl (op_pick_f (v := (Value.bool false)) rfl rfl ?_)
         refine Rg_op rfl (op_move (v := (Value.bool false)) rfl ?_)
         iterate 3 refine Rg_opx rfl (asB_ne rfl rfl) rfl ?_
         refine Rg_op rfl (op_pick_f (v := (Value.bool false)) rfl rfl ?_)
         refine Rg_op rfl (op_move (v := (Value.bool false)) rfl ?_)
         iterate 2 refine Rg_opx rfl (asB_ne rfl rfl) rfl ?_
         refine Rg_op rfl (op_pick_f (v := (Value.bool false)) rfl rfl ?_)
         refine Rg_op rfl (op_move (v := (Value.bool false)) rfl ?_)
         iterate 3 refine Rg_opx rfl (asB_ne rfl rfl) rfl ?_
         refine Rg_op rfl (op_pick_f (v := (Value.bool false)) rfl rfl ?_)
         refine Rg_op rfl (op_move (v := (Value.bool false)) rfl ?_)
         iterate 3 refine Rg_opx rfl (asB_ne rfl rfl) rfl ?_
         refine Rg_op rfl (op_pick_f (v := (Value.bool false)) rfl rfl ?_)
         refine Rg_op rfl (op_assign (v := (Value.bool false)) rfl ?_)
         refine Rg_nil ?_
         exact hK171 _ _ ⟨false, _, rfl, ⟨(by repeat (first | with_reducible exact Out.refl _ _ | refine Out.upd ?_ rfl | refine Out.updL ?_ rfl | refine Out.mix' ?_ rfl | exact Out.refl _ _)), rfl, rfl, trivial⟩, ch177, hs163, hm⟩
       ·
        replace hm := bif_f hm hg182
        iterate 2 refine Rg_opx rfl (asB_ne rfl rfl) rfl ?_
        refine Rg_op rfl (op_pick_f (v := (Value.bool false)) rfl rfl ?_)
        refine Rg_op rfl (op_move (v := (Value.bool false)) rfl ?_)
        iterate 3 refine Rg_opx rfl (asB_ne rfl rfl) rfl ?_
        refine Rg_op rfl (op_pick_f (v := (Value.bool false)) rfl rfl ?_)
        refine Rg_op rfl (op_move (v := (Value.bool false)) rfl ?_)
        refine Rg_opx rfl (asB_ne rfl rfl) rfl ?_
        refine Rg_op rfl (op_pick_f (v := (Value.bool false)) rfl rfl ?_)
        refine Rg_op rfl (op_move (v := (Value.bool false)) rfl ?_)
        iterate 2 refine Rg_opx rfl (asB_ne rfl rfl) rfl ?_
        refine Rg_op rfl (op_pick_f (v := (Value.bool false)) rfl rfl ?_)
        refine Rg_op rfl (op_move (v := (Value.bool false)) rfl ?_)
        iterate 2 refine Rg_opx rfl (asB_ne rfl rfl) rfl ?_
        refine Rg_op rfl (op_pick_f (v := (Value.bool false)) rfl rfl ?_)
        refine Rg_op rfl (op_move (v := (Value.bool false)) rfl ?_)
        iterate 3 refine Rg_opx rfl (asB_ne rfl rfl) rfl ?_
        refine Rg_op rfl (op_pick_f (v := (Value.bool false)) rfl rfl ?_)
        refine Rg_op rfl (op_move (v := (Value.bool false)) rfl ?_)
        iterate 3 refine Rg_opx rfl (asB_ne rfl rfl) rfl ?_
        refine Rg_op rfl (op_pick_f (v := (Value.bool false)) rfl rfl ?_)
        refine Rg_op rfl (op_move (v := (Value.bool false)) rfl ?_)
        iterate 2 refine Rg_opx rfl (asB_ne rfl rfl) rfl ?_
        refine Rg_op rfl (op_pick_f (v := (Value.bool false)) rfl rfl ?_)
        refine Rg_op rfl (op_move (v := (Value.bool false)) rfl ?_)
        iterate 3 refine Rg_opx rfl (asB_ne rfl rfl) rfl ?_
        refine Rg_op rfl (op_pick_f (v := (Value.bool false)) rfl rfl ?_)
        refine Rg_op rfl (op_move (v := (Value.bool false)) rfl ?_)
        iterate 3 refine Rg_opx rfl (asB_ne rfl rfl) rfl ?_
        refine Rg_op rfl (op_pick_f (v := (Value.bool false)) rfl rfl ?_)
        refine Rg_op rfl (op_assign (v := (Value.bool false)) rfl ?_)
        refine Rg_nil ?_
        exact hK171 _ _ ⟨false, _, rfl, ⟨(by repeat (first | with_reducible exact Out.refl _ _ | refine Out.upd ?_ rfl | refine Out.updL ?_ rfl | refine Out.mix' ?_ rfl | exact Out.refl _ _)), rfl, rfl, trivial⟩, ch177, hs163, hm⟩
      ·
       replace hm := bif_f hm hg181
       iterate 2 refine Rg_opx rfl (asB_ne rfl rfl) rfl ?_
       refine Rg_op rfl (op_pick_f (v := (Value.bool false)) rfl rfl ?_)
       refine Rg_op rfl (op_move (v := (Value.bool false)) rfl ?_)
       iterate 2 refine Rg_opx rfl (asB_ne rfl rfl) rfl ?_
       refine Rg_op rfl (op_pick_f (v := (Value.bool false)) rfl rfl ?_)
       refine Rg_op rfl (op_move (v := (Value.bool false)) rfl ?_)
       iterate 3 refine Rg_opx rfl (asB_ne rfl rfl) rfl ?_
       refine Rg_op rfl (op_pick_f (v := (Value.bool false)) rfl rfl ?_)
       refine Rg_op rfl (op_move (v := (Value.bool false)) rfl ?_)
       refine Rg_opx rfl (asB_ne rfl rfl) rfl ?_
       refine Rg_op rfl (op_pick_f (v := (Value.bool false)) rfl rfl ?_)
       refine Rg_op rfl (op_move (v := (Value.bool false)) rfl ?_)
       iterate 2 refine Rg_opx rfl (asB_ne rfl rfl) rfl ?_
       refine Rg_op rfl (op_pick_f (v := (Value.bool false)) rfl rfl ?_)
       refine Rg_op rfl (op_move (v := (Value.bool false)) rfl ?_)
       iterate 2 refine Rg_opx rfl (asB_ne rfl rfl) rfl ?_
       refine Rg_op rfl (op_pick_f (v := (Value.bool false)) rfl rfl ?_)
       refine Rg_op rfl (op_move (v := (Value.bool false)) rfl ?_)
       iterate 3 refine Rg_opx rfl (asB_ne rfl rfl) rfl ?_
       refine Rg_op rfl (op_pick_f (v := (Value.bool false)) rfl rfl ?_)
       refine Rg_op rfl (op_move (v := (Value.bool false)) rfl ?_)
       iterate 3 refine Rg_opx rfl (asB_ne rfl rfl) rfl ?_
       refine Rg_op rfl (op_pick_f (v := (Value.bool false)) rfl rfl ?_)
       refine Rg_op rfl (op_move (v := (Value.bool false)) rfl ?_)
       iterate 2 refine Rg_opx rfl (asB_ne rfl rfl) rfl ?_
       refine Rg_op rfl (op_pick_f (v := (Value.bool false)) rfl rfl ?_)
       refine Rg_op rfl (op_move (v := (Value.bool false)) rfl ?_)
       iterate 3 refine Rg_opx rfl (asB_ne rfl rfl) rfl ?_
       refine Rg_op rfl (op_pick_f (v := (Value.bool false)) rfl rfl ?_)
       refine Rg_op rfl (op_move (v := (Value.bool false)) rfl ?_)
       iterate 3 refine Rg_opx rfl (asB_ne rfl rfl) rfl ?_
       refine Rg_op rfl (op_pick_f (v := (Value.bool false)) rfl rfl ?_)
       refine Rg_op rfl (op_assign (v := (Value.bool false)) rfl ?_)
       refine Rg_nil ?_
       exact hK171 _ _ ⟨false, _, rfl, ⟨(by repeat (first | with_reducible exact Out.refl _ _ | refine Out.upd ?_ rfl | refine Out.updL ?_ rfl | refine Out.mix' ?_ rfl | exact Out.refl _ _)), rfl, rfl, trivial⟩, ch177, hs163, hm⟩
     ·
      replace hm := bif_f hm hg180
      iterate 2 refine Rg_opx rfl (asB_ne rfl rfl) rfl ?_
      refine Rg_op rfl (op_pick_f (v := (Value.bool false)) rfl rfl ?_)
      refine Rg_op rfl (op_move (v := (Value.bool false)) rfl ?_)
      iterate 2 refine Rg_opx rfl (asB_ne rfl rfl) rfl ?_
      refine Rg_op rfl (op_pick_f (v := (Value.bool false)) rfl rfl ?_)
      refine Rg_op rfl (op_move (v := (Value.bool false)) rfl ?_)
      iterate 2 refine Rg_opx rfl (asB_ne rfl rfl) rfl ?_
      refine Rg_op rfl (op_pick_f (v := (Value.bool false)) rfl rfl ?_)
      refine Rg_op rfl (op_move (v := (Value.bool false)) rfl ?_)
      iterate 3 refine Rg_opx rfl (asB_ne rfl rfl) rfl ?_
      refine Rg_op rfl (op_pick_f (v := (Value.bool false)) rfl rfl ?_)
      refine Rg_op rfl (op_move (v := (Value.bool false)) rfl ?_)
      refine Rg_opx rfl (asB_ne rfl rfl) rfl ?_
      refine Rg_op rfl (op_pick_f (v := (Value.bool false)) rfl rfl ?_)
      refine Rg_op rfl (op_move (v := (Value.bool false)) rfl ?_)
      iterate 2 refine Rg_opx rfl (asB_ne rfl rfl) rfl ?_
      refine Rg_op rfl (op_pick_f (v := (Value.bool false)) rfl rfl ?_)
      refine Rg_op rfl (op_move (v := (Value.bool false)) rfl ?_)
      iterate 2 refine Rg_opx rfl (asB_ne rfl rfl) rfl ?_
      refine Rg_op rfl (op_pick_f (v := (Value.bool false)) rfl rfl ?_)
      refine Rg_op rfl (op_move (v := (Value.bool false)) rfl ?_)
      iterate 3 refine Rg_opx rfl (asB_ne rfl rfl) rfl ?_
      refine Rg_op rfl (op_pick_f (v := (Value.bool false)) rfl rfl ?_)
      refine Rg_op rfl (op_move (v := (Value.bool false)) rfl ?_)
      iterate 3 refine Rg_opx rfl (asB_ne rfl rfl) rfl ?_
      refine Rg_op rfl (op_pick_f (v := (Value.bool false)) rfl rfl ?_)
      refine Rg_op rfl (op_move (v := (Value.bool false)) rfl ?_)
      iterate 2 refine Rg_opx rfl (asB_ne rfl rfl) rfl ?_
      refine Rg_op rfl (op_pick_f (v := (Value.bool false)) rfl rfl ?_)
      refine Rg_op rfl (op_move (v := (Value.bool false)) rfl ?_)
      iterate 3 refine Rg_opx rfl (asB_ne rfl rfl) rfl ?_
      refine Rg_op rfl (op_pick_f (v := (Value.bool false)) rfl rfl ?_)
      refine Rg_op rfl (op_move (v := (Value.bool false)) rfl ?_)
      iterate 3 refine Rg_opx rfl (asB_ne rfl rfl) rfl ?_
      refine Rg_op rfl (op_pick_f (v := (Value.bool false)) rfl rfl ?_)
      refine Rg_op rfl (op_assign (v := (Value.bool false)) rfl ?_)
      refine Rg_nil ?_
      exact hK171 _ _ ⟨false, _, rfl, ⟨(by repeat (first | with_reducible exact Out.refl _ _ | refine Out.upd ?_ rfl | refine Out.updL ?_ rfl | refine Out.mix' ?_ rfl | exact Out.refl _ _)), rfl, rfl, trivial⟩, ch177, hs163, hm⟩
    ·
     replace hm := bif_f hm hg179
     refine Rg_opx rfl (asB_ne rfl rfl) rfl ?_
     refine Rg_op rfl (op_pick_f (v := (Value.bool false)) rfl rfl ?_)
     refine Rg_op rfl (op_move (v := (Value.bool false)) rfl ?_)
     iterate 2 refine Rg_opx rfl (asB_ne rfl rfl) rfl ?_
     refine Rg_op rfl (op_pick_f (v := (Value.bool false)) rfl rfl ?_)
     refine Rg_op rfl (op_move (v := (Value.bool false)) rfl ?_)
     iterate 2 refine Rg_opx rfl (asB_ne rfl rfl) rfl ?_
     refine Rg_op rfl (op_pick_f (v := (Value.bool false)) rfl rfl ?_)
     refine Rg_op rfl (op_move (v := (Value.bool false)) rfl ?_)
     iterate 2 refine Rg_opx rfl (asB_ne rfl rfl) rfl ?_
     refine Rg_op rfl (op_pick_f (v := (Value.bool false)) rfl rfl ?_)
     refine Rg_op rfl (op_move (v := (Value.bool false)) rfl ?_)
     iterate 3 refine Rg_opx rfl (asB_ne rfl rfl) rfl ?_
     refine Rg_op rfl (op_pick_f (v := (Value.bool false)) rfl rfl ?_)
     refine Rg_op rfl (op_move (v := (Value.bool false)) rfl ?_)
     refine Rg_opx rfl (asB_ne rfl rfl) rfl ?_
     refine Rg_op rfl (op_pick_f (v := (Value.bool false)) rfl rfl ?_)
     refine Rg_op rfl (op_move (v := (Value.bool false)) rfl ?_)
     iterate 2 refine Rg_opx rfl (asB_ne rfl rfl) rfl ?_
     refine Rg_op rfl (op_pick_f (v := (Value.bool false)) rfl rfl ?_)
     refine Rg_op rfl (op_move (v := (Value.bool false)) rfl ?_)
     iterate 2 refine Rg_opx rfl (asB_ne rfl rfl) rfl ?_
     refine Rg_op rfl (op_pick_f (v := (Value.bool false)) rfl rfl ?_)
     refine Rg_op rfl (op_move (v := (Value.bool false)) rfl ?_)
     iterate 3 refine Rg_opx rfl (asB_ne rfl rfl) rfl ?_
     refine Rg_op rfl (op_pick_f (v := (Value.bool false)) rfl rfl ?_)
     refine Rg_op rfl (op_move (v := (Value.bool false)) rfl ?_)
     iterate 3 refine Rg_opx rfl (asB_ne rfl rfl) rfl ?_
     refine Rg_op rfl (op_pick_f (v := (Value.bool false)) rfl rfl ?_)
     refine Rg_op rfl (op_move (v := (Value.bool false)) rfl ?_)
     iterate 2 refine Rg_opx rfl (asB_ne rfl rfl) rfl ?_
     refine Rg_op rfl (op_pick_f (v := (Value.bool false)) rfl rfl ?_)
     refine Rg_op rfl (op_move (v := (Value.bool false)) rfl ?_)
     iterate 3 refine Rg_opx rfl (asB_ne rfl rfl) rfl ?_
     refine Rg_op rfl (op_pick_f (v := (Value.bool false)) rfl rfl ?_)
     refine Rg_op rfl (op_move (v := (Value.bool false)) rfl ?_)
     iterate 3 refine Rg_opx rfl (asB_ne rfl rfl) rfl ?_
     refine Rg_op rfl (op_pick_f (v := (Value.bool false)) rfl rfl ?_)
     refine Rg_op rfl (op_assign (v := (Value.bool false)) rfl ?_)
     refine Rg_nil ?_
     exact hK171 _ _ ⟨false, _, rfl, ⟨(by repeat (first | with_reducible exact Out.refl _ _ | refine Out.upd ?_ rfl | refine Out.updL ?_ rfl | refine Out.mix' ?_ rfl | exact Out.refl _ _)), rfl, rfl, trivial⟩, ch177, hs163, hm⟩
   ·
    replace hm := bif_f hm hg178
    iterate 2 refine Rg_opx rfl (asB_ne rfl rfl) rfl ?_
    refine Rg_op rfl (op_pick_f (v := (Value.bool false)) rfl rfl ?_)
    refine Rg_op rfl (op_move (v := (Value.bool false)) rfl ?_)
    refine Rg_opx rfl (asB_ne rfl rfl) rfl ?_
    refine Rg_op rfl (op_pick_f (v := (Value.bool false)) rfl rfl ?_)
    refine Rg_op rfl (op_move (v := (Value.bool false)) rfl ?_)
    iterate 2 refine Rg_opx rfl (asB_ne rfl rfl) rfl ?_
    refine Rg_op rfl (op_pick_f (v := (Value.bool false)) rfl rfl ?_)
    refine Rg_op rfl (op_move (v := (Value.bool false)) rfl ?_)
    iterate 2 refine Rg_opx rfl (asB_ne rfl rfl) rfl ?_
    refine Rg_op rfl (op_pick_f (v := (Value.bool false)) rfl rfl ?_)
    refine Rg_op rfl (op_move (v := (Value.bool false)) rfl ?_)
    iterate 2 refine Rg_opx rfl (asB_ne rfl rfl) rfl ?_
    refine Rg_op rfl (op_pick_f (v := (Value.bool false)) rfl rfl ?_)
    refine Rg_op rfl (op_move (v := (Value.bool false)) rfl ?_)
    iterate 3 refine Rg_opx rfl (asB_ne rfl rfl) rfl ?_
    refine Rg_op rfl (op_pick_f (v := (Value.bool false)) rfl rfl ?_)
    refine Rg_op rfl (op_move (v := (Value.bool false)) rfl ?_)
    refine Rg_opx rfl (asB_ne rfl rfl) rfl ?_
    refine Rg_op rfl (op_pick_f (v := (Value.bool false)) rfl rfl ?_)
    refine Rg_op rfl (op_move (v := (Value.bool false)) rfl ?_)
    iterate 2 refine Rg_opx rfl (asB_ne rfl rfl) rfl ?_
    refine Rg_op rfl (op_pick_f (v := (Value.bool false)) rfl rfl ?_)
    refine Rg_op rfl (op_move (v := (Value.bool false)) rfl ?_)
    iterate 2 refine Rg_opx rfl (asB_ne rfl rfl) rfl ?_
    refine Rg_op rfl (op_pick_f (v := (Value.bool false)) rfl rfl ?_)
    refine Rg_op rfl (op_move (v := (Value.bool false)) rfl ?_)
    iterate 3 refine Rg_opx rfl (asB_ne rfl rfl) rfl ?_
    refine Rg_op rfl (op_pick_f (v := (Value.bool false)) rfl rfl ?_)
    refine Rg_op rfl (op_move (v := (Value.bool false)) rfl ?_)
    iterate 3 refine Rg_opx rfl (asB_ne rfl rfl) rfl ?_
    refine Rg_op rfl (op_pick_f (v := (Value.bool false)) rfl rfl ?_)
    refine Rg_op rfl (op_move (v := (Value.bool false)) rfl ?_)
    iterate 2 refine Rg_opx rfl (asB_ne rfl rfl) rfl ?_
    refine Rg_op rfl (op_pick_f (v := (Value.bool false)) rfl rfl ?_)
    refine Rg_op rfl (op_move (v := (Value.bool false)) rfl ?_)
    iterate 3 refine Rg_opx rfl (asB_ne rfl rfl) rfl ?_
    refine Rg_op rfl (op_pick_f (v := (Value.bool false)) rfl rfl ?_)
    refine Rg_op rfl (op_move (v := (Value.bool false)) rfl ?_)
    iterate 3 refine Rg_opx rfl (asB_ne rfl rfl) rfl ?_
    refine Rg_op rfl (op_pick_f (v := (Value.bool false)) rfl rfl ?_)
    refine Rg_op rfl (op_assign (v := (Value.bool false)) rfl ?_)
    refine Rg_nil ?_
    exact hK171 _ _ ⟨false, _, rfl, ⟨(by repeat (first | with_reducible exact Out.refl _ _ | refine Out.upd ?_ rfl | refine Out.updL ?_ rfl | refine Out.mix' ?_ rfl | exact Out.refl _ _)), rfl, rfl, trivial⟩, ch177, hs163, hm⟩
 ·
  intro K161 hK161
  have ch249 := Step.refl (ks [(some b9, Obj.cells [(Value.slice a_y8_volumes example_1.volumes.length c_y8_volumes), (Value.slice a_y8_sectors example_1.sectors.length c_y8_sectors), (Value.slice a_y8_configs example_1.configs.length c_y8_configs), (Value.slice a_y8_segments example_1.segments.length c_y8_segments), (Value.slice a_y8_routes example_1.routes.length c_y8_routes), (Value.slice a_y8_airports example_1.airports.length c_y8_airports), (Value.slice a_y8_classes example_1.classes.length c_y8_classes), (Value.slice a_y8_rules example_1.rules.length c_y8_rules)].toArray 31)] O) w146
  refine Wp_region ?_
  refine Rg_op rfl (op_move (v := (Value.int .i64 reach_1.2)) rfl ?_)
  refine Rg_op rfl (op_eql rfl rfl ?_)
  refine Rg_op rfl (op_move (v := (Value.bool (decide (reach_1.2 = 0)))) rfl ?_)
  refine Rg_case (fun hg250 => ?_) (fun hg250 => ?_)
  ·
   replace hm := bif_t hm hg250
   refine Rg_opg rfl rfl rfl (op_move (v := (Value.slice a_y28 reach_1.1.length c_y28)) rfl ?_)
   refine Rg_opg rfl rfl rfl (op_buildSlice (cs := [(Value.int .i64 0), (Value.int .i64 1), (Value.int .i64 2)]) (parts := [(0, .const (.int .i64 0)), (1, .const (.int .i64 1)), (2, .const (.int .i64 2))]) ty39 ty3 hs149 (by decide) rfl ?_)
   intro b251 w252 hx255 p253 hs254
   replace f_y8_volumes := f_y8_volumes.step p253; replace f_y8_sectors := f_y8_sectors.step p253; replace f_y8_configs := f_y8_configs.step p253; replace f_y8_segments := f_y8_segments.step p253; replace f_y8_routes := f_y8_routes.step p253; replace f_y8_airports := f_y8_airports.step p253; replace f_y8_classes := f_y8_classes.step p253; replace f_y8_rules := f_y8_rules.step p253; replace f_y28 := f_y28.step p253; replace f_y43 := f_y43.step p253; replace f_y59 := f_y59.step p253; replace f_y127 := f_y127.step p253; replace ch249 := ch249.trans p253; clear p253 hs149
   obtain ⟨hs258, p259, f257⟩ := St.publish (i := 0) (o := 0) (c := 3) (xs := [0, 1, 2]) hs254 rfl (show Els (rInt .i64) _ _ [(Value.int .i64 0), (Value.int .i64 1), (Value.int .i64 2)] [0, 1, 2] from ⟨_, _, rfl, (mk_int (show InK .i64 0 from by decide)), ⟨_, _, rfl, (mk_int (show InK .i64 1 from by decide)), ⟨_, _, rfl, (mk_int (show InK .i64 2 from by decide)), Els.nil⟩⟩⟩) (le_lit rfl) (le_lit rfl) (le_lit rfl)
   replace f_y8_volumes := f_y8_volumes.step p259; replace f_y8_sectors := f_y8_sectors.step p259; replace f_y8_configs := f_y8_configs.step p259; replace f_y8_segments := f_y8_segments.step p259; replace f_y8_routes := f_y8_routes.step p259; replace f_y8_airports := f_y8_airports.step p259; replace f_y8_classes := f_y8_classes.step p259; replace f_y8_rules := f_y8_rules.step p259; replace f_y28 := f_y28.step p259; replace f_y43 := f_y43.step p259; replace f_y59 := f_y59.step p259; replace f_y127 := f_y127.step p259; replace ch249 := ch249.trans p259; clear p259 hs254
   replace hm := bd hm; obtain ⟨sameints_2, hv260, hm⟩ := hm
   refine Rg_opg rfl rfl rfl (op_call Try.call21 (c21_overflightref10_SameInts (a := reach_1.1) (b := [0, 1, 2]) hs258.ltw f_y28 f257 hv260) rfl ?_)
   rintro v261 w262 ⟨hx263, h264⟩
   have hs265 := hs258.call hx263
   have p266 := Step.ext (O := ks [(some b9, Obj.cells [(Value.slice a_y8_volumes example_1.volumes.length c_y8_volumes), (Value.slice a_y8_sectors example_1.sectors.length c_y8_sectors), (Value.slice a_y8_configs example_1.configs.length c_y8_configs), (Value.slice a_y8_segments example_1.segments.length c_y8_segments), (Value.slice a_y8_routes example_1.routes.length c_y8_routes), (Value.slice a_y8_airports example_1.airports.length c_y8_airports), (Value.slice a_y8_classes example_1.classes.length c_y8_classes), (Value.slice a_y8_rules example_1.rules.length c_y8_rules)].toArray 31)] O) hx263
   clear hx263
   replace f_y8_volumes := f_y8_volumes.step p266; replace f_y8_sectors := f_y8_sectors.step p266; replace f_y8_configs := f_y8_configs.step p266; replace f_y8_segments := f_y8_segments.step p266; replace f_y8_routes := f_y8_routes.step p266; replace f_y8_airports := f_y8_airports.step p266; replace f_y8_classes := f_y8_classes.step p266; replace f_y8_rules := f_y8_rules.step p266; replace f_y28 := f_y28.step p266; replace f_y43 := f_y43.step p266; replace f_y59 := f_y59.step p266; replace f_y127 := f_y127.step p266; replace f257 := f257.step p266; replace ch249 := ch249.trans p266; clear p266 hs258
   obtain rfl := h264
   refine Rg_op rfl (op_pick_t (v := (Value.bool sameints_2)) rfl rfl ?_)
   refine Rg_op rfl (op_move (v := (Value.bool sameints_2)) rfl ?_)
   refine Rg_case (fun hg268 => ?_) (fun hg268 => ?_)
   ·
    replace hm := bif_t hm hg268
    refine Rg_opg rfl rfl rfl (op_move (v := (Value.int .i64 path_1.2.2)) rfl ?_)
    refine Rg_opg rfl rfl rfl (op_eql rfl rfl ?_)
    refine Rg_op rfl (op_pick_t (v := (Value.bool (decide (path_1.2.2 = 0)))) rfl rfl ?_)
    refine Rg_op rfl (op_move (v := (Value.bool (decide (path_1.2.2 = 0)))) rfl ?_)
    refine Rg_case (fun hg269 => ?_) (fun hg269 => ?_)
    ·
     replace hm := bif_t hm hg269
     refine Rg_opg rfl rfl rfl (op_move (v := (Value.bool path_1.2.1)) rfl ?_)
     refine Rg_op rfl (op_pick_t (v := (Value.bool path_1.2.1)) rfl rfl ?_)
     refine Rg_op rfl (op_move (v := (Value.bool path_1.2.1)) rfl ?_)
     refine Rg_case (fun hg270 => ?_) (fun hg270 => ?_)
     ·
      replace hm := bif_t hm hg270
      refine Rg_opg rfl rfl rfl (op_move (v := (Value.slice a_y43 path_1.1.length c_y43)) rfl ?_)
      refine Rg_opg rfl rfl rfl (op_buildSlice (cs := [(Value.int .i64 0), (Value.int .i64 2), (Value.int .i64 1)]) (parts := [(0, .const (.int .i64 0)), (1, .const (.int .i64 2)), (2, .const (.int .i64 1))]) ty39 ty3 hs265 (by decide) rfl ?_)
      intro b271 w272 hx275 p273 hs274
      replace f_y8_volumes := f_y8_volumes.step p273; replace f_y8_sectors := f_y8_sectors.step p273; replace f_y8_configs := f_y8_configs.step p273; replace f_y8_segments := f_y8_segments.step p273; replace f_y8_routes := f_y8_routes.step p273; replace f_y8_airports := f_y8_airports.step p273; replace f_y8_classes := f_y8_classes.step p273; replace f_y8_rules := f_y8_rules.step p273; replace f_y28 := f_y28.step p273; replace f_y43 := f_y43.step p273; replace f_y59 := f_y59.step p273; replace f_y127 := f_y127.step p273; replace f257 := f257.step p273; replace ch249 := ch249.trans p273; clear p273 hs265
      obtain ⟨hs278, p279, f277⟩ := St.publish (i := 0) (o := 0) (c := 3) (xs := [0, 2, 1]) hs274 rfl (show Els (rInt .i64) _ _ [(Value.int .i64 0), (Value.int .i64 2), (Value.int .i64 1)] [0, 2, 1] from ⟨_, _, rfl, (mk_int (show InK .i64 0 from by decide)), ⟨_, _, rfl, (mk_int (show InK .i64 2 from by decide)), ⟨_, _, rfl, (mk_int (show InK .i64 1 from by decide)), Els.nil⟩⟩⟩) (le_lit rfl) (le_lit rfl) (le_lit rfl)
      replace f_y8_volumes := f_y8_volumes.step p279; replace f_y8_sectors := f_y8_sectors.step p279; replace f_y8_configs := f_y8_configs.step p279; replace f_y8_segments := f_y8_segments.step p279; replace f_y8_routes := f_y8_routes.step p279; replace f_y8_airports := f_y8_airports.step p279; replace f_y8_classes := f_y8_classes.step p279; replace f_y8_rules := f_y8_rules.step p279; replace f_y28 := f_y28.step p279; replace f_y43 := f_y43.step p279; replace f_y59 := f_y59.step p279; replace f_y127 := f_y127.step p279; replace f257 := f257.step p279; replace ch249 := ch249.trans p279; clear p279 hs274
      replace hm := bd hm; obtain ⟨sameints_3, hv280, hm⟩ := hm
      refine Rg_opg rfl rfl rfl (op_call Try.call21 (c21_overflightref10_SameInts (a := path_1.1) (b := [0, 2, 1]) hs278.ltw f_y43 f277 hv280) rfl ?_)
      rintro v281 w282 ⟨hx283, h284⟩
      have hs285 := hs278.call hx283
      have p286 := Step.ext (O := ks [(some b9, Obj.cells [(Value.slice a_y8_volumes example_1.volumes.length c_y8_volumes), (Value.slice a_y8_sectors example_1.sectors.length c_y8_sectors), (Value.slice a_y8_configs example_1.configs.length c_y8_configs), (Value.slice a_y8_segments example_1.segments.length c_y8_segments), (Value.slice a_y8_routes example_1.routes.length c_y8_routes), (Value.slice a_y8_airports example_1.airports.length c_y8_airports), (Value.slice a_y8_classes example_1.classes.length c_y8_classes), (Value.slice a_y8_rules example_1.rules.length c_y8_rules)].toArray 31)] O) hx283
      clear hx283
      replace f_y8_volumes := f_y8_volumes.step p286; replace f_y8_sectors := f_y8_sectors.step p286; replace f_y8_configs := f_y8_configs.step p286; replace f_y8_segments := f_y8_segments.step p286; replace f_y8_routes := f_y8_routes.step p286; replace f_y8_airports := f_y8_airports.step p286; replace f_y8_classes := f_y8_classes.step p286; replace f_y8_rules := f_y8_rules.step p286; replace f_y28 := f_y28.step p286; replace f_y43 := f_y43.step p286; replace f_y59 := f_y59.step p286; replace f_y127 := f_y127.step p286; replace f257 := f257.step p286; replace f277 := f277.step p286; replace ch249 := ch249.trans p286; clear p286 hs278
      obtain rfl := h284
      refine Rg_op rfl (op_pick_t (v := (Value.bool sameints_3)) rfl rfl ?_)
      refine Rg_op rfl (op_move (v := (Value.bool sameints_3)) rfl ?_)
      refine Rg_case (fun hg288 => ?_) (fun hg288 => ?_)
      ·
       replace hm := bif_t hm hg288
       refine Rg_opg rfl rfl rfl (op_move (v := (Value.int .i64 path_2.2.2)) rfl ?_)
       refine Rg_opg rfl rfl rfl (op_eql rfl rfl ?_)
       refine Rg_op rfl (op_pick_t (v := (Value.bool (decide (path_2.2.2 = 0)))) rfl rfl ?_)
       refine Rg_op rfl (op_move (v := (Value.bool (decide (path_2.2.2 = 0)))) rfl ?_)
       refine Rg_case (fun hg289 => ?_) (fun hg289 => ?_)
       ·
        replace hm := bif_t hm hg289
        refine Rg_opg rfl rfl rfl (op_move (v := (Value.bool path_2.2.1)) rfl ?_)
        refine Rg_op rfl (op_pick_t (v := (Value.bool path_2.2.1)) rfl rfl ?_)
        refine Rg_op rfl (op_move (v := (Value.bool path_2.2.1)) rfl ?_)
        refine Rg_case (fun hg290 => ?_) (fun hg290 => ?_)
        ·
         replace hm := bif_t hm hg290
         refine Rg_opg rfl rfl rfl (op_move (v := (Value.slice a_y59 path_2.1.length c_y59)) rfl ?_)
         refine Rg_opg rfl rfl rfl (op_buildSlice (cs := [(Value.int .i64 1)]) (parts := [(0, .const (.int .i64 1))]) ty39 ty3 hs285 (by decide) rfl ?_)
         intro b291 w292 hx295 p293 hs294
         replace f_y8_volumes := f_y8_volumes.step p293; replace f_y8_sectors := f_y8_sectors.step p293; replace f_y8_configs := f_y8_configs.step p293; replace f_y8_segments := f_y8_segments.step p293; replace f_y8_routes := f_y8_routes.step p293; replace f_y8_airports := f_y8_airports.step p293; replace f_y8_classes := f_y8_classes.step p293; replace f_y8_rules := f_y8_rules.step p293; replace f_y28 := f_y28.step p293; replace f_y43 := f_y43.step p293; replace f_y59 := f_y59.step p293; replace f_y127 := f_y127.step p293; replace f257 := f257.step p293; replace f277 := f277.step p293; replace ch249 := ch249.trans p293; clear p293 hs285
         obtain ⟨hs298, p299, f297⟩ := St.publish (i := 0) (o := 0) (c := 1) (xs := [1]) hs294 rfl (show Els (rInt .i64) _ _ [(Value.int .i64 1)] [1] from ⟨_, _, rfl, (mk_int (show InK .i64 1 from by decide)), Els.nil⟩) (le_lit rfl) (le_lit rfl) (le_lit rfl)
         replace f_y8_volumes := f_y8_volumes.step p299; replace f_y8_sectors := f_y8_sectors.step p299; replace f_y8_configs := f_y8_configs.step p299; replace f_y8_segments := f_y8_segments.step p299; replace f_y8_routes := f_y8_routes.step p299; replace f_y8_airports := f_y8_airports.step p299; replace f_y8_classes := f_y8_classes.step p299; replace f_y8_rules := f_y8_rules.step p299; replace f_y28 := f_y28.step p299; replace f_y43 := f_y43.step p299; replace f_y59 := f_y59.step p299; replace f_y127 := f_y127.step p299; replace f257 := f257.step p299; replace f277 := f277.step p299; replace ch249 := ch249.trans p299; clear p299 hs294
         replace hm := bd hm; obtain ⟨sameints_4, hv300, hm⟩ := hm
         refine Rg_opg rfl rfl rfl (op_call Try.call21 (c21_overflightref10_SameInts (a := path_2.1) (b := [1]) hs298.ltw f_y59 f297 hv300) rfl ?_)
         rintro v301 w302 ⟨hx303, h304⟩
         have hs305 := hs298.call hx303
         have p306 := Step.ext (O := ks [(some b9, Obj.cells [(Value.slice a_y8_volumes example_1.volumes.length c_y8_volumes), (Value.slice a_y8_sectors example_1.sectors.length c_y8_sectors), (Value.slice a_y8_configs example_1.configs.length c_y8_configs), (Value.slice a_y8_segments example_1.segments.length c_y8_segments), (Value.slice a_y8_routes example_1.routes.length c_y8_routes), (Value.slice a_y8_airports example_1.airports.length c_y8_airports), (Value.slice a_y8_classes example_1.classes.length c_y8_classes), (Value.slice a_y8_rules example_1.rules.length c_y8_rules)].toArray 31)] O) hx303
         clear hx303
         replace f_y8_volumes := f_y8_volumes.step p306; replace f_y8_sectors := f_y8_sectors.step p306; replace f_y8_configs := f_y8_configs.step p306; replace f_y8_segments := f_y8_segments.step p306; replace f_y8_routes := f_y8_routes.step p306; replace f_y8_airports := f_y8_airports.step p306; replace f_y8_classes := f_y8_classes.step p306; replace f_y8_rules := f_y8_rules.step p306; replace f_y28 := f_y28.step p306; replace f_y43 := f_y43.step p306; replace f_y59 := f_y59.step p306; replace f_y127 := f_y127.step p306; replace f257 := f257.step p306; replace f277 := f277.step p306; replace f297 := f297.step p306; replace ch249 := ch249.trans p306; clear p306 hs298
         obtain rfl := h304
         refine Rg_op rfl (op_pick_t (v := (Value.bool sameints_4)) rfl rfl ?_)
         refine Rg_op rfl (op_move (v := (Value.bool sameints_4)) rfl ?_)
         refine Rg_case (fun hg308 => ?_) (fun hg308 => ?_)
         ·
          replace hm := bif_t hm hg308
          refine Rg_opg rfl rfl rfl (op_move (v := (Value.int .i64 stuck_1.2.2.2)) rfl ?_)
          refine Rg_opg rfl rfl rfl (op_eql rfl rfl ?_)
          refine Rg_op rfl (op_pick_t (v := (Value.bool (decide (stuck_1.2.2.2 = 0)))) rfl rfl ?_)
          refine Rg_op rfl (op_move (v := (Value.bool (decide (stuck_1.2.2.2 = 0)))) rfl ?_)
          refine Rg_case (fun hg309 => ?_) (fun hg309 => ?_)
          ·
           replace hm := bif_t hm hg309
           refine Rg_opg rfl rfl rfl (op_move (v := (Value.bool stuck_1.2.2.1)) rfl ?_)
           refine Rg_opg rfl rfl rfl (op_not rfl ?_)
           refine Rg_op rfl (op_pick_t (v := (Value.bool (!stuck_1.2.2.1))) rfl rfl ?_)
           refine Rg_op rfl (op_move (v := (Value.bool (!stuck_1.2.2.1))) rfl ?_)
           refine Rg_case (fun hg310 => ?_) (fun hg310 => ?_)
           ·
            replace hm := bif_t hm hg310
            refine Rg_opg rfl rfl rfl (op_move (v := (Value.int .i64 stuck_1.1)) rfl ?_)
            refine Rg_opg rfl rfl rfl (op_eql rfl rfl ?_)
            refine Rg_op rfl (op_pick_t (v := (Value.bool (decide (stuck_1.1 = 0)))) rfl rfl ?_)
            refine Rg_op rfl (op_move (v := (Value.bool (decide (stuck_1.1 = 0)))) rfl ?_)
            refine Rg_case (fun hg311 => ?_) (fun hg311 => ?_)
            ·
             replace hm := bif_t hm hg311
             refine Rg_opg rfl rfl rfl (op_move (v := (Value.int .i64 stuck_1.2.1)) rfl ?_)
             refine Rg_opg rfl rfl rfl (op_eql rfl rfl ?_)
             refine Rg_op rfl (op_pick_t (v := (Value.bool (decide (stuck_1.2.1 = 0)))) rfl rfl ?_)
             refine Rg_op rfl (op_assign (v := (Value.bool (decide (stuck_1.2.1 = 0)))) rfl ?_)
             refine Rg_nil ?_
             exact hK161 _ _ ⟨(decide (stuck_1.2.1 = 0)), _, rfl, ⟨(by repeat (first | with_reducible exact Out.refl _ _ | refine Out.upd ?_ rfl | refine Out.updL ?_ rfl | refine Out.mix' ?_ rfl | exact Out.refl _ _)), rfl, rfl, trivial⟩, ch249, hs305, hm⟩
            ·
             replace hm := bif_f hm hg311
             iterate 2 refine Rg_opx rfl (asB_ne rfl rfl) rfl ?_
             refine Rg_op rfl (op_pick_f (v := (Value.bool false)) rfl rfl ?_)
             refine Rg_op rfl (op_assign (v := (Value.bool false)) rfl ?_)
             refine Rg_nil ?_
             exact hK161 _ _ ⟨false, _, rfl, ⟨(by repeat (first | with_reducible exact Out.refl _ _ | refine Out.upd ?_ rfl | refine Out.updL ?_ rfl | refine Out.mix' ?_ rfl | exact Out.refl _ _)), rfl, rfl, trivial⟩, ch249, hs305, hm⟩
           ·
            replace hm := bif_f hm hg310
            iterate 2 refine Rg_opx rfl (asB_ne rfl rfl) rfl ?_
            refine Rg_op rfl (op_pick_f (v := (Value.bool false)) rfl rfl ?_)
            refine Rg_op rfl (op_move (v := (Value.bool false)) rfl ?_)
            iterate 2 refine Rg_opx rfl (asB_ne rfl rfl) rfl ?_
            refine Rg_op rfl (op_pick_f (v := (Value.bool false)) rfl rfl ?_)
            refine Rg_op rfl (op_assign (v := (Value.bool false)) rfl ?_)
            refine Rg_nil ?_
            exact hK161 _ _ ⟨false, _, rfl, ⟨(by repeat (first | with_reducible exact Out.refl _ _ | refine Out.upd ?_ rfl | refine Out.updL ?_ rfl | refine Out.mix' ?_ rfl | exact Out.refl _ _)), rfl, rfl, trivial⟩, ch249, hs305, hm⟩
          ·
           replace hm := bif_f hm hg309
           iterate 2 refine Rg_opx rfl (asB_ne rfl rfl) rfl ?_
           refine Rg_op rfl (op_pick_f (v := (Value.bool false)) rfl rfl ?_)
           refine Rg_op rfl (op_move (v := (Value.bool false)) rfl ?_)
           iterate 2 refine Rg_opx rfl (asB_ne rfl rfl) rfl ?_
           refine Rg_op rfl (op_pick_f (v := (Value.bool false)) rfl rfl ?_)
           refine Rg_op rfl (op_move (v := (Value.bool false)) rfl ?_)
           iterate 2 refine Rg_opx rfl (asB_ne rfl rfl) rfl ?_
           refine Rg_op rfl (op_pick_f (v := (Value.bool false)) rfl rfl ?_)
           refine Rg_op rfl (op_assign (v := (Value.bool false)) rfl ?_)
           refine Rg_nil ?_
           exact hK161 _ _ ⟨false, _, rfl, ⟨(by repeat (first | with_reducible exact Out.refl _ _ | refine Out.upd ?_ rfl | refine Out.updL ?_ rfl | refine Out.mix' ?_ rfl | exact Out.refl _ _)), rfl, rfl, trivial⟩, ch249, hs305, hm⟩
         ·
          replace hm := bif_f hm hg308
          iterate 2 refine Rg_opx rfl (asB_ne rfl rfl) rfl ?_
          refine Rg_op rfl (op_pick_f (v := (Value.bool false)) rfl rfl ?_)
          refine Rg_op rfl (op_move (v := (Value.bool false)) rfl ?_)
          iterate 2 refine Rg_opx rfl (asB_ne rfl rfl) rfl ?_
          refine Rg_op rfl (op_pick_f (v := (Value.bool false)) rfl rfl ?_)
          refine Rg_op rfl (op_move (v := (Value.bool false)) rfl ?_)
          iterate 2 refine Rg_opx rfl (asB_ne rfl rfl) rfl ?_
          refine Rg_op rfl (op_pick_f (v := (Value.bool false)) rfl rfl ?_)
          refine Rg_op rfl (op_move (v := (Value.bool false)) rfl ?_)
          iterate 2 refine Rg_opx rfl (asB_ne rfl rfl) rfl ?_
          refine Rg_op rfl (op_pick_f (v := (Value.bool false)) rfl rfl ?_)
          refine Rg_op rfl (op_assign (v := (Value.bool false)) rfl ?_)
          refine Rg_nil ?_
          exact hK161 _ _ ⟨false, _, rfl, ⟨(by repeat (first | with_reducible exact Out.refl _ _ | refine Out.upd ?_ rfl | refine Out.updL ?_ rfl | refine Out.mix' ?_ rfl | exact Out.refl _ _)), rfl, rfl, trivial⟩, ch249, hs305, hm⟩
        ·
         replace hm := bif_f hm hg290
         iterate 3 refine Rg_opx rfl (asB_ne rfl rfl) rfl ?_
         refine Rg_op rfl (op_pick_f (v := (Value.bool false)) rfl rfl ?_)
         refine Rg_op rfl (op_move (v := (Value.bool false)) rfl ?_)
         iterate 2 refine Rg_opx rfl (asB_ne rfl rfl) rfl ?_
         refine Rg_op rfl (op_pick_f (v := (Value.bool false)) rfl rfl ?_)
         refine Rg_op rfl (op_move (v := (Value.bool false)) rfl ?_)
         iterate 2 refine Rg_opx rfl (asB_ne rfl rfl) rfl ?_
         refine Rg_op rfl (op_pick_f (v := (Value.bool false)) rfl rfl ?_)
         refine Rg_op rfl (op_move (v := (Value.bool false)) rfl ?_)
         iterate 2 refine Rg_opx rfl (asB_ne rfl rfl) rfl ?_
         refine Rg_op rfl (op_pick_f (v := (Value.bool false)) rfl rfl ?_)
         refine Rg_op rfl (op_move (v := (Value.bool false)) rfl ?_)
         iterate 2 refine Rg_opx rfl (asB_ne rfl rfl) rfl ?_
         refine Rg_op rfl (op_pick_f (v := (Value.bool false)) rfl rfl ?_)
         refine Rg_op rfl (op_assign (v := (Value.bool false)) rfl ?_)
         refine Rg_nil ?_
         exact hK161 _ _ ⟨false, _, rfl, ⟨(by repeat (first | with_reducible exact Out.refl _ _ | refine Out.upd ?_ rfl | refine Out.updL ?_ rfl | refine Out.mix' ?_ rfl | exact Out.refl _ _)), rfl, rfl, trivial⟩, ch249, hs285, hm⟩
       ·
        replace hm := bif_f hm hg289
        refine Rg_opx rfl (asB_ne rfl rfl) rfl ?_
        refine Rg_op rfl (op_pick_f (v := (Value.bool false)) rfl rfl ?_)
        refine Rg_op rfl (op_move (v := (Value.bool false)) rfl ?_)
        iterate 3 refine Rg_opx rfl (asB_ne rfl rfl) rfl ?_
        refine Rg_op rfl (op_pick_f (v := (Value.bool false)) rfl rfl ?_)
        refine Rg_op rfl (op_move (v := (Value.bool false)) rfl ?_)
        iterate 2 refine Rg_opx rfl (asB_ne rfl rfl) rfl ?_
        refine Rg_op rfl (op_pick_f (v := (Value.bool false)) rfl rfl ?_)
        refine Rg_op rfl (op_move (v := (Value.bool false)) rfl ?_)
        iterate 2 refine Rg_opx rfl (asB_ne rfl rfl) rfl ?_
        refine Rg_op rfl (op_pick_f (v := (Value.bool false)) rfl rfl ?_)
        refine Rg_op rfl (op_move (v := (Value.bool false)) rfl ?_)
        iterate 2 refine Rg_opx rfl (asB_ne rfl rfl) rfl ?_
        refine Rg_op rfl (op_pick_f (v := (Value.bool false)) rfl rfl ?_)
        refine Rg_op rfl (op_move (v := (Value.bool false)) rfl ?_)
        iterate 2 refine Rg_opx rfl (asB_ne rfl rfl) rfl ?_
        refine Rg_op rfl (op_pick_f (v := (Value.bool false)) rfl rfl ?_)
        refine Rg_op rfl (op_assign (v := (Value.bool false)) rfl ?_)
        refine Rg_nil ?_
        exact hK161 _ _ ⟨false, _, rfl, ⟨(by repeat (first | with_reducible exact Out.refl _ _ | refine Out.upd ?_ rfl | refine Out.updL ?_ rfl | refine Out.mix' ?_ rfl | exact Out.refl _ _)), rfl, rfl, trivial⟩, ch249, hs285, hm⟩
      ·
       replace hm := bif_f hm hg288
       iterate 2 refine Rg_opx rfl (asB_ne rfl rfl) rfl ?_
       refine Rg_op rfl (op_pick_f (v := (Value.bool false)) rfl rfl ?_)
       refine Rg_op rfl (op_move (v := (Value.bool false)) rfl ?_)
       refine Rg_opx rfl (asB_ne rfl rfl) rfl ?_
       refine Rg_op rfl (op_pick_f (v := (Value.bool false)) rfl rfl ?_)
       refine Rg_op rfl (op_move (v := (Value.bool false)) rfl ?_)
       iterate 3 refine Rg_opx rfl (asB_ne rfl rfl) rfl ?_
       refine Rg_op rfl (op_pick_f (v := (Value.bool false)) rfl rfl ?_)
       refine Rg_op rfl (op_move (v := (Value.bool false)) rfl ?_)
       iterate 2 refine Rg_opx rfl (asB_ne rfl rfl) rfl ?_
       refine Rg_op rfl (op_pick_f (v := (Value.bool false)) rfl rfl ?_)
       refine Rg_op rfl (op_move (v := (Value.bool false)) rfl ?_)
       iterate 2 refine Rg_opx rfl (asB_ne rfl rfl) rfl ?_
       refine Rg_op rfl (op_pick_f (v := (Value.bool false)) rfl rfl ?_)
       refine Rg_op rfl (op_move (v := (Value.bool false)) rfl ?_)
       iterate 2 refine Rg_opx rfl (asB_ne rfl rfl) rfl ?_
       refine Rg_op rfl (op_pick_f (v := (Value.bool false)) rfl rfl ?_)
       refine Rg_op rfl (op_move (v := (Value.bool false)) rfl ?_)
       iterate 2 refine Rg_opx rfl (asB_ne rfl rfl) rfl ?_
       refine Rg_op rfl (op_pick_f (v := (Value.bool false)) rfl rfl ?_)
       refine Rg_op rfl (op_assign (v := (Value.bool false)) rfl ?_)
       refine Rg_nil ?_
       exact hK161 _ _ ⟨false, _, rfl, ⟨(by repeat (first | with_reducible exact Out.refl _ _ | refine Out.upd ?_ rfl | refine Out.updL ?_ rfl | refine Out.mix' ?_ rfl | exact Out.refl _ _)), rfl, rfl, trivial⟩, ch249, hs285, hm⟩
     ·
      replace hm := bif_f hm hg270
      iterate 3 refine Rg_opx rfl (asB_ne rfl rfl) rfl ?_
      refine Rg_op rfl (op_pick_f (v := (Value.bool false)) rfl rfl ?_)
      refine Rg_op rfl (op_move (v := (Value.bool false)) rfl ?_)
      iterate 2 refine Rg_opx rfl (asB_ne rfl rfl) rfl ?_
      refine Rg_op rfl (op_pick_f (v := (Value.bool false)) rfl rfl ?_)
      refine Rg_op rfl (op_move (v := (Value.bool false)) rfl ?_)
      refine Rg_opx rfl (asB_ne rfl rfl) rfl ?_
      refine Rg_op rfl (op_pick_f (v := (Value.bool false)) rfl rfl ?_)
      refine Rg_op rfl (op_move (v := (Value.bool false)) rfl ?_)
      iterate 3 refine Rg_opx rfl (asB_ne rfl rfl) rfl ?_
      refine Rg_op rfl (op_pick_f (v := (Value.bool false)) rfl rfl ?_)
      refine Rg_op rfl (op_move (v := (Value.bool false)) rfl ?_)
      iterate 2 refine Rg_opx rfl (asB_ne rfl rfl) rfl ?_
      refine Rg_op rfl (op_pick_f (v := (Value.bool false)) rfl rfl ?_)
      refine Rg_op rfl (op_move (v := (Value.bool false)) rfl ?_)
      iterate 2 refine Rg_opx rfl (asB_ne rfl rfl) rfl ?_
      refine Rg_op rfl (op_pick_f (v := (Value.bool false)) rfl rfl ?_)
      refine Rg_op rfl (op_move (v := (Value.bool false)) rfl ?_)
      iterate 2 refine Rg_opx rfl (asB_ne rfl rfl) rfl ?_
      refine Rg_op rfl (op_pick_f (v := (Value.bool false)) rfl rfl ?_)
      refine Rg_op rfl (op_move (v := (Value.bool false)) rfl ?_)
      iterate 2 refine Rg_opx rfl (asB_ne rfl rfl) rfl ?_
      refine Rg_op rfl (op_pick_f (v := (Value.bool false)) rfl rfl ?_)
      refine Rg_op rfl (op_assign (v := (Value.bool false)) rfl ?_)
      refine Rg_nil ?_
      exact hK161 _ _ ⟨false, _, rfl, ⟨(by repeat (first | with_reducible exact Out.refl _ _ | refine Out.upd ?_ rfl | refine Out.updL ?_ rfl | refine Out.mix' ?_ rfl | exact Out.refl _ _)), rfl, rfl, trivial⟩, ch249, hs265, hm⟩
    ·
     replace hm := bif_f hm hg269
     refine Rg_opx rfl (asB_ne rfl rfl) rfl ?_
     refine Rg_op rfl (op_pick_f (v := (Value.bool false)) rfl rfl ?_)
     refine Rg_op rfl (op_move (v := (Value.bool false)) rfl ?_)
     iterate 3 refine Rg_opx rfl (asB_ne rfl rfl) rfl ?_
     refine Rg_op rfl (op_pick_f (v := (Value.bool false)) rfl rfl ?_)
     refine Rg_op rfl (op_move (v := (Value.bool false)) rfl ?_)
     iterate 2 refine Rg_opx rfl (asB_ne rfl rfl) rfl ?_
     refine Rg_op rfl (op_pick_f (v := (Value.bool false)) rfl rfl ?_)
     refine Rg_op rfl (op_move (v := (Value.bool false)) rfl ?_)
     refine Rg_opx rfl (asB_ne rfl rfl) rfl ?_
     refine Rg_op rfl (op_pick_f (v := (Value.bool false)) rfl rfl ?_)
     refine Rg_op rfl (op_move (v := (Value.bool false)) rfl ?_)
     iterate 3 refine Rg_opx rfl (asB_ne rfl rfl) rfl ?_
     refine Rg_op rfl (op_pick_f (v := (Value.bool false)) rfl rfl ?_)
     refine Rg_op rfl (op_move (v := (Value.bool false)) rfl ?_)
     iterate 2 refine Rg_opx rfl (asB_ne rfl rfl) rfl ?_
     refine Rg_op rfl (op_pick_f (v := (Value.bool false)) rfl rfl ?_)
     refine Rg_op rfl (op_move (v := (Value.bool false)) rfl ?_)
     iterate 2 refine Rg_opx rfl (asB_ne rfl rfl) rfl ?_
     refine Rg_op rfl (op_pick_f (v := (Value.bool false)) rfl rfl ?_)
     refine Rg_op rfl (op_move (v := (Value.bool false)) rfl ?_)
     iterate 2 refine Rg_opx rfl (asB_ne rfl rfl) rfl ?_
     refine Rg_op rfl (op_pick_f (v := (Value.bool false)) rfl rfl ?_)
     refine Rg_op rfl (op_move (v := (Value.bool false)) rfl ?_)
     iterate 2 refine Rg_opx rfl (asB_ne rfl rfl) rfl ?_
     refine Rg_op rfl (op_pick_f (v := (Value.bool false)) rfl rfl ?_)
     refine Rg_op rfl (op_assign (v := (Value.bool false)) rfl ?_)
     refine Rg_nil ?_
     exact hK161 _ _ ⟨false, _, rfl, ⟨(by repeat (first | with_reducible exact Out.refl _ _ | refine Out.upd ?_ rfl | refine Out.updL ?_ rfl | refine Out.mix' ?_ rfl | exact Out.refl _ _)), rfl, rfl, trivial⟩, ch249, hs265, hm⟩
   ·
    replace hm := bif_f hm hg268
    iterate 2 refine Rg_opx rfl (asB_ne rfl rfl) rfl ?_
    refine Rg_op rfl (op_pick_f (v := (Value.bool false)) rfl rfl ?_)
    refine Rg_op rfl (op_move (v := (Value.bool false)) rfl ?_)
    refine Rg_opx rfl (asB_ne rfl rfl) rfl ?_
    refine Rg_op rfl (op_pick_f (v := (Value.bool false)) rfl rfl ?_)
    refine Rg_op rfl (op_move (v := (Value.bool false)) rfl ?_)
    iterate 3 refine Rg_opx rfl (asB_ne rfl rfl) rfl ?_
    refine Rg_op rfl (op_pick_f (v := (Value.bool false)) rfl rfl ?_)
    refine Rg_op rfl (op_move (v := (Value.bool false)) rfl ?_)
    iterate 2 refine Rg_opx rfl (asB_ne rfl rfl) rfl ?_
    refine Rg_op rfl (op_pick_f (v := (Value.bool false)) rfl rfl ?_)
    refine Rg_op rfl (op_move (v := (Value.bool false)) rfl ?_)
    refine Rg_opx rfl (asB_ne rfl rfl) rfl ?_
    refine Rg_op rfl (op_pick_f (v := (Value.bool false)) rfl rfl ?_)
    refine Rg_op rfl (op_move (v := (Value.bool false)) rfl ?_)
    iterate 3 refine Rg_opx rfl (asB_ne rfl rfl) rfl ?_
    refine Rg_op rfl (op_pick_f (v := (Value.bool false)) rfl rfl ?_)
    refine Rg_op rfl (op_move (v := (Value.bool false)) rfl ?_)
    iterate 2 refine Rg_opx rfl (asB_ne rfl rfl) rfl ?_
    refine Rg_op rfl (op_pick_f (v := (Value.bool false)) rfl rfl ?_)
    refine Rg_op rfl (op_move (v := (Value.bool false)) rfl ?_)
    iterate 2 refine Rg_opx rfl (asB_ne rfl rfl) rfl ?_
    refine Rg_op rfl (op_pick_f (v := (Value.bool false)) rfl rfl ?_)
    refine Rg_op rfl (op_move (v := (Value.bool false)) rfl ?_)
    iterate 2 refine Rg_opx rfl (asB_ne rfl rfl) rfl ?_
    refine Rg_op rfl (op_pick_f (v := (Value.bool false)) rfl rfl ?_)
    refine Rg_op rfl (op_move (v := (Value.bool false)) rfl ?_)
    iterate 2 refine Rg_opx rfl (asB_ne rfl rfl) rfl ?_
    refine Rg_op rfl (op_pick_f (v := (Value.bool false)) rfl rfl ?_)
    refine Rg_op rfl (op_assign (v := (Value.bool false)) rfl ?_)
    refine Rg_nil ?_
    exact hK161 _ _ ⟨false, _, rfl, ⟨(by repeat (first | with_reducible exact Out.refl _ _ | refine Out.upd ?_ rfl | refine Out.updL ?_ rfl | refine Out.mix' ?_ rfl | exact Out.refl _ _)), rfl, rfl, trivial⟩, ch249, hs265, hm⟩
  ·
   replace hm := bif_f hm hg250
   iterate 3 refine Rg_opx rfl (asB_ne rfl rfl) rfl ?_
   refine Rg_op rfl (op_pick_f (v := (Value.bool false)) rfl rfl ?_)
   refine Rg_op rfl (op_move (v := (Value.bool false)) rfl ?_)
   iterate 2 refine Rg_opx rfl (asB_ne rfl rfl) rfl ?_
   refine Rg_op rfl (op_pick_f (v := (Value.bool false)) rfl rfl ?_)
   refine Rg_op rfl (op_move (v := (Value.bool false)) rfl ?_)
   refine Rg_opx rfl (asB_ne rfl rfl) rfl ?_
   refine Rg_op rfl (op_pick_f (v := (Value.bool false)) rfl rfl ?_)
   refine Rg_op rfl (op_move (v := (Value.bool false)) rfl ?_)
   iterate 3 refine Rg_opx rfl (asB_ne rfl rfl) rfl ?_
   refine Rg_op rfl (op_pick_f (v := (Value.bool false)) rfl rfl ?_)
   refine Rg_op rfl (op_move (v := (Value.bool false)) rfl ?_)
   iterate 2 refine Rg_opx rfl (asB_ne rfl rfl) rfl ?_
   refine Rg_op rfl (op_pick_f (v := (Value.bool false)) rfl rfl ?_)
   refine Rg_op rfl (op_move (v := (Value.bool false)) rfl ?_)
   refine Rg_opx rfl (asB_ne rfl rfl) rfl ?_
   refine Rg_op rfl (op_pick_f (v := (Value.bool false)) rfl rfl ?_)
   refine Rg_op rfl (op_move (v := (Value.bool false)) rfl ?_)
   iterate 3 refine Rg_opx rfl (asB_ne rfl rfl) rfl ?_
   refine Rg_op rfl (op_pick_f (v := (Value.bool false)) rfl rfl ?_)
   refine Rg_op rfl (op_move (v := (Value.bool false)) rfl ?_)
   iterate 2 refine Rg_opx rfl (asB_ne rfl rfl) rfl ?_
   refine Rg_op rfl (op_pick_f (v := (Value.bool false)) rfl rfl ?_)
   refine Rg_op rfl (op_move (v := (Value.bool false)) rfl ?_)
   iterate 2 refine Rg_opx rfl (asB_ne rfl rfl) rfl ?_
   refine Rg_op rfl (op_pick_f (v := (Value.bool false)) rfl rfl ?_)
   refine Rg_op rfl (op_move (v := (Value.bool false)) rfl ?_)
   iterate 2 refine Rg_opx rfl (asB_ne rfl rfl) rfl ?_
   refine Rg_op rfl (op_pick_f (v := (Value.bool false)) rfl rfl ?_)
   refine Rg_op rfl (op_move (v := (Value.bool false)) rfl ?_)
   iterate 2 refine Rg_opx rfl (asB_ne rfl rfl) rfl ?_
   refine Rg_op rfl (op_pick_f (v := (Value.bool false)) rfl rfl ?_)
   refine Rg_op rfl (op_assign (v := (Value.bool false)) rfl ?_)
   refine Rg_nil ?_
   exact hK161 _ _ ⟨false, _, rfl, ⟨(by repeat (first | with_reducible exact Out.refl _ _ | refine Out.upd ?_ rfl | refine Out.updL ?_ rfl | refine Out.mix' ?_ rfl | exact Out.refl _ _)), rfl, rfl, trivial⟩, ch249, hs149, hm⟩

end Go.Fx



set_option linter.unusedVariables false
set_option linter.unusedSimpArgs false
set_option maxRecDepth 100000
set_option maxHeartbeats 0
namespace Go.Fx
open Go Go.RowKit Go.Proofs
def m12_overflightref10_Few_B1 (a : XAirspace) (sf29 : Int → Option Bool) (i_2 : Int) : Option Bool :=
 bif (decide (i_2 < (a.configs.length : Int))) then
  ck ((0 : Int) ≤ i_2 ∧ i_2 < (a.configs.length : Int)) <|
  bif (decide (10 < (((a.configs.getD i_2.toNat default).sectors).length : Int))) then
   some false
  else
   sf29 (IntKind.wrap .i64 (i_2 + 1))
 else
  bif (decide ((a.volumes.length : Int) ≤ 6)) then
   bif (decide ((a.sectors.length : Int) ≤ 12)) then
    some (decide ((a.configs.length : Int) ≤ 7))
   else
    some false
  else
   some false

def m12_overflightref10_Few_B0 (a : XAirspace) (sf8 : Int → Option Bool) (i_1 : Int) : Option Bool :=
 bif (decide (i_1 < (a.sectors.length : Int))) then
  ck ((0 : Int) ≤ i_1 ∧ i_1 < (a.sectors.length : Int)) <|
  bif (decide (10 < (((a.sectors.getD i_1.toNat default).volumes).length : Int))) then
   some false
  else
   sf8 (IntKind.wrap .i64 (i_1 + 1))
 else
  loop1 (m12_overflightref10_Few_B1 a) (((a.configs.length : Int) - 0).toNat + 1) 0

def m12_overflightref10_Few (a : XAirspace) : Option Bool :=
 loop1 (m12_overflightref10_Few_B0 a) (((a.sectors.length : Int) - 0).toNat + 1) 0

theorem c12_overflightref10_Few {w : World} {O : List Nat} {a : XAirspace} {a_a_volumes : Option Addr} {c_a_volumes : Nat} {a_a_sectors : Option Addr} {c_a_sectors : Nat} {a_a_configs : Option Addr} {c_a_configs : Nat} {a_a_segments : Option Addr} {c_a_segments : Nat} {a_a_routes : Option Addr} {c_a_routes : Nat} {a_a_airports : Option Addr} {c_a_airports : Nat} {a_a_classes : Option Addr} {c_a_classes : Nat} {a_a_rules : Option Addr} {c_a_rules : Nat} (hO : ∀ k ∈ O, k < w.heap.size) (f_a_volumes : SlR rXVolume w O a_a_volumes c_a_volumes a.volumes) (f_a_sectors : SlR rXSector w O a_a_sectors c_a_sectors a.sectors) (f_a_configs : SlR rXConfig w O a_a_configs c_a_configs a.configs) (f_a_segments : SlR rXSegment w O a_a_segments c_a_segments a.segments) (f_a_routes : SlR rXRoute w O a_a_routes c_a_routes a.routes) (f_a_airports : SlR rXAirport w O a_a_airports c_a_airports a.airports) (f_a_classes : SlR rXClass w O a_a_classes c_a_classes a.classes) (f_a_rules : SlR rXRule w O a_a_rules c_a_rules a.rules) {x : Bool} (hm : m12_overflightref10_Few a = some x) :
  Ok Try.prog 12 [(Value.agg [(Value.slice a_a_volumes a.volumes.length c_a_volumes), (Value.slice a_a_sectors a.sectors.length c_a_sectors), (Value.slice a_a_configs a.configs.length c_a_configs), (Value.slice a_a_segments a.segments.length c_a_segments), (Value.slice a_a_routes a.routes.length c_a_routes), (Value.slice a_a_airports a.airports.length c_a_airports), (Value.slice a_a_classes a.classes.length c_a_classes), (Value.slice a_a_rules a.rules.length c_a_rules)].toArray)] w O vB x := by
 unfold m12_overflightref10_Few at hm
 refine Fn_of_Wp (n := 51) (xs := [.tmp 2]) Try.func12 rfl Try.ntmps12 Try.results12 rfl ?_
 have hs := St.start hO
 refine Wp_seq ?_
 refine Wp_region ?_
 refine Rg_op rfl (op_box (cs := [(Value.slice a_a_volumes a.volumes.length c_a_volumes), (Value.slice a_a_sectors a.sectors.length c_a_sectors), (Value.slice a_a_configs a.configs.length c_a_configs), (Value.slice a_a_segments a.segments.length c_a_segments), (Value.slice a_a_routes a.routes.length c_a_routes), (Value.slice a_a_airports a.airports.length c_a_airports), (Value.slice a_a_classes a.classes.length c_a_classes), (Value.slice a_a_rules a.rules.length c_a_rules)]) hs rfl rfl ?_)
 intro b1 w2 _ p3 hs4
 replace f_a_volumes := f_a_volumes.step p3; replace f_a_sectors := f_a_sectors.step p3; replace f_a_configs := f_a_configs.step p3; replace f_a_segments := f_a_segments.step p3; replace f_a_routes := f_a_routes.step p3; replace f_a_airports := f_a_airports.step p3; replace f_a_classes := f_a_classes.step p3; replace f_a_rules := f_a_rules.step p3; clear p3
 refine Rg_op rfl (op_assign (v := (Value.bool false)) rfl ?_)
 refine Rg_nil ?_
 refine Wp_seq ?_
 refine Wp_seq ?_
 refine Wp_region ?_
 refine Rg_op rfl (op_assign (v := (Value.int .i64 0)) rfl ?_)
 refine Rg_nil ?_
 refine Wp_block ?_
 refine Wp_reset [] [(1, (Value.pointer (some ⟨b1, 0, none⟩))), (3, (Value.int .i64 0))] rfl ⟨rfl, rfl, trivial⟩ fun ξ7 => ?_
 refine Wp_loopM [2, 3, 5, 6, 7, 8, 9, 10, 11, 12, 13, 14, 15, 16, 17, 18, 19] (fun m fr w' => ∃ (i_1 : Int) (Ebs : Ents), Ebs = [(some b1, Obj.cells [(Value.slice a_a_volumes a.volumes.length c_a_volumes), (Value.slice a_a_sectors a.sectors.length c_a_sectors), (Value.slice a_a_configs a.configs.length c_a_configs), (Value.slice a_a_segments a.segments.length c_a_segments), (Value.slice a_a_routes a.routes.length c_a_routes), (Value.slice a_a_airports a.airports.length c_a_airports), (Value.slice a_a_classes a.classes.length c_a_classes), (Value.slice a_a_rules a.rules.length c_a_rules)].toArray 31)] ∧ fr [] [(3, (Value.int .i64 i_1))] ∧ Step (ks [(some b1, Obj.cells [(Value.slice a_a_volumes a.volumes.length c_a_volumes), (Value.slice a_a_sectors a.sectors.length c_a_sectors), (Value.slice a_a_configs a.configs.length c_a_configs), (Value.slice a_a_segments a.segments.length c_a_segments), (Value.slice a_a_routes a.routes.length c_a_routes), (Value.slice a_a_airports a.airports.length c_a_airports), (Value.slice a_a_classes a.classes.length c_a_classes), (Value.slice a_a_rules a.rules.length c_a_rules)].toArray 31)] O) w2 (ks Ebs O) w' ∧ St ⟨w, [], []⟩ O w' Ebs ∧ InK .i64 i_1 ∧ loop1 (m12_overflightref10_Few_B0 a) m i_1 = some x) (((a.sectors.length : Int) - 0).toNat + 1) ⟨0, _, rfl, ⟨Out.refl _ _, rfl, rfl, trivial⟩, Step.refl _ _, hs4, (show InK .i64 0 from by decide), hm⟩ ?_ ?_
 · rintro _ _ ⟨_, _, _, _, _, _, _, hm⟩; exact loop1_z hm
 ·
  rintro m11 K10 hK10 ρ16 w12 ⟨i_1, Ebs, hEbs, hfr15, hst14, hs13, r_y6, hm⟩
  obtain ⟨sf8, hsf9, hm⟩ := loop1_s hm; unfold m12_overflightref10_Few_B0 at hm
  subst hEbs; rw [hfr15.eq]; clear hfr15
  replace f_a_volumes := f_a_volumes.step hst14; replace f_a_sectors := f_a_sectors.step hst14; replace f_a_configs := f_a_configs.step hst14; replace f_a_segments := f_a_segments.step hst14; replace f_a_routes := f_a_routes.step hst14; replace f_a_airports := f_a_airports.step hst14; replace f_a_classes := f_a_classes.step hst14; replace f_a_rules := f_a_rules.step hst14
  have ch17 := hst14
  refine Wp_seq ?_
  refine Wp_seq ?_
  refine Wp_region ?_
  refine Rg_op rfl (op_move (v := (Value.int .i64 i_1)) rfl ?_)
  refine Rg_op rfl (op_fieldAddr ty31 rfl ty23 (by decide) rfl (rfl : _ = (⟨_, 1, none⟩ : Addr)) ?_)
  refine Rg_op rfl (op_load (cs := [(Value.slice a_a_volumes a.volumes.length c_a_volumes), (Value.slice a_a_sectors a.sectors.length c_a_sectors), (Value.slice a_a_configs a.configs.length c_a_configs), (Value.slice a_a_segments a.segments.length c_a_segments), (Value.slice a_a_routes a.routes.length c_a_routes), (Value.slice a_a_airports a.airports.length c_a_airports), (Value.slice a_a_classes a.classes.length c_a_classes), (Value.slice a_a_rules a.rules.length c_a_rules)]) (i := 0) ty23 hs13 rfl rfl rfl ?_)
  refine Rg_op rfl (op_len Try.underlying23 rfl ?_)
  refine Rg_op rfl (op_lss rfl rfl ?_)
  refine Rg_nil ?_
  refine Wp_cond rfl (fun hc18 => ?_) (fun hc18 => ?_)
  ·
   replace hm := bif_t hm hc18
   refine Wp_skip ?_
   refine Wp_seq ?_
   refine Wp_block ?_
   refine Wp_seq ?_
   refine Wp_region ?_
   refine Rg_op rfl (op_fieldAddr ty31 rfl ty23 (by decide) rfl (rfl : _ = (⟨_, 1, none⟩ : Addr)) ?_)
   refine Rg_op rfl (op_load (cs := [(Value.slice a_a_volumes a.volumes.length c_a_volumes), (Value.slice a_a_sectors a.sectors.length c_a_sectors), (Value.slice a_a_configs a.configs.length c_a_configs), (Value.slice a_a_segments a.segments.length c_a_segments), (Value.slice a_a_routes a.routes.length c_a_routes), (Value.slice a_a_airports a.airports.length c_a_airports), (Value.slice a_a_classes a.classes.length c_a_classes), (Value.slice a_a_rules a.rules.length c_a_rules)]) (i := 0) ty23 hs13 rfl rfl rfl ?_)
   refine Rg_op rfl (op_move (v := (Value.int .i64 i_1)) rfl ?_)
   replace hm := ck_some hm; obtain ⟨hc19, hm⟩ := hm
   refine Rg_op rfl (op_indexAddr (q := rXSector) ty23 ty50 rfl rfl f_a_sectors rfl hc19.1 hc19.2 ?_)
   intro p20 f21
   refine Rg_op rfl (op_fieldAddr ty50 rfl ty39 (by decide) rfl rfl ?_)
   have f22 := f21.via.snd.snd.fst
   refine Rg_op rfl (op_loadP ty39 rfl f22 rfl ?_)
   intro v23 h24
   obtain ⟨a_y25, c_y25, rfl, f_y25⟩ := un_sl h24
   refine Rg_op rfl (op_len Try.underlying39 rfl ?_)
   refine Rg_op rfl (op_gtr rfl rfl ?_)
   refine Rg_nil ?_
   refine Wp_cond rfl (fun hc26 => ?_) (fun hc26 => ?_)
   ·
    replace hm := bif_t hm hc26
    refine Wp_seq ?_
    clear f21 f22 f_y25
    refine Wp_region ?_
    refine Rg_op rfl (op_assign (v := (Value.bool false)) rfl ?_)
    refine Rg_nil ?_
    refine Wp_ret ?_
    have hz := step_all hs13
    replace f_a_volumes := f_a_volumes.step hz; replace f_a_sectors := f_a_sectors.step hz; replace f_a_configs := f_a_configs.step hz; replace f_a_segments := f_a_segments.step hz; replace f_a_routes := f_a_routes.step hz; replace f_a_airports := f_a_airports.step hz; replace f_a_classes := f_a_classes.step hz; replace f_a_rules := f_a_rules.step hz
    refine ⟨_, (show Closes [] _ _ from rfl), [(Value.bool false)], ⟨rfl, trivial⟩, hs13.ext, ?_⟩
    exact Vr.eq (a := vB) (x := false) rfl (Option.some.inj hm)
   ·
    replace hm := bif_f hm hc26
    refine Wp_skip ?_
    clear f21 f22 f_y25
    refine Wp_region ?_
    refine Rg_op rfl (op_move (v := (Value.int .i64 i_1)) rfl ?_)
    refine Rg_op rfl (op_addw rfl rfl ?_)
    refine Rg_op rfl (op_assign (v := (Value.int .i64 (IntKind.wrap .i64 (i_1 + 1)))) rfl ?_)
    refine Rg_nil ?_
    exact hK10 _ _ ⟨(IntKind.wrap .i64 (i_1 + 1)), _, rfl, ⟨(by repeat (first | with_reducible exact Out.refl _ _ | refine Out.upd ?_ rfl | refine Out.updL ?_ rfl | refine Out.mix' ?_ rfl | exact Out.refl _ _)), rfl, rfl, trivial⟩, ch17, hs13, (inK_wrap .i64 _), jnE1 hsf9 hm⟩
  ·
   replace hm := bif_f hm hc18
   refine Wp_exit ?_
   refine Wp_seq ?_
   refine Wp_seq ?_
   refine Wp_region ?_
   refine Rg_op rfl (op_assign (v := (Value.int .i64 0)) rfl ?_)
   refine Rg_nil ?_
   refine Wp_block ?_
   refine Wp_reset [] [(1, (Value.pointer (some ⟨b1, 0, none⟩))), (4, (Value.int .i64 0))] rfl ⟨rfl, rfl, trivial⟩ fun ξ28 => ?_
   refine Wp_loopM [2, 4, 20, 21, 22, 23, 24, 25, 26, 27, 28, 29, 30, 31, 32, 33, 34] (fun m fr w' => ∃ (i_2 : Int) (Ebs : Ents), Ebs = [(some b1, Obj.cells [(Value.slice a_a_volumes a.volumes.length c_a_volumes), (Value.slice a_a_sectors a.sectors.length c_a_sectors), (Value.slice a_a_configs a.configs.length c_a_configs), (Value.slice a_a_segments a.segments.length c_a_segments), (Value.slice a_a_routes a.routes.length c_a_routes), (Value.slice a_a_airports a.airports.length c_a_airports), (Value.slice a_a_classes a.classes.length c_a_classes), (Value.slice a_a_rules a.rules.length c_a_rules)].toArray 31)] ∧ fr [] [(4, (Value.int .i64 i_2))] ∧ Step (ks [(some b1, Obj.cells [(Value.slice a_a_volumes a.volumes.length c_a_volumes), (Value.slice a_a_sectors a.sectors.length c_a_sectors), (Value.slice a_a_configs a.configs.length c_a_configs), (Value.slice a_a_segments a.segments.length c_a_segments), (Value.slice a_a_routes a.routes.length c_a_routes), (Value.slice a_a_airports a.airports.length c_a_airports), (Value.slice a_a_classes a.classes.length c_a_classes), (Value.slice a_a_rules a.rules.length c_a_rules)].toArray 31)] O) w12 (ks Ebs O) w' ∧ St ⟨w, [], []⟩ O w' Ebs ∧ InK .i64 i_2 ∧ loop1 (m12_overflightref10_Few_B1 a) m i_2 = some x) (((a.configs.length : Int) - 0).toNat + 1) ⟨0, _, rfl, ⟨Out.refl _ _, rfl, rfl, trivial⟩, Step.refl _ _, hs13, (show InK .i64 0 from by decide), hm⟩ ?_ ?_
   · rintro _ _ ⟨_, _, _, _, _, _, _, hm⟩; exact loop1_z hm
   ·
    rintro m32 K31 hK31 ρ37 w33 ⟨i_2, Ebs, hEbs, hfr36, hst35, hs34, r_y27, hm⟩
    obtain ⟨sf29, hsf30, hm⟩ := loop1_s hm; unfold m12_overflightref10_Few_B1 at hm
    subst hEbs; rw [hfr36.eq]; clear hfr36
    replace f_a_volumes := f_a_volumes.step hst35; replace f_a_sectors := f_a_sectors.step hst35; replace f_a_configs := f_a_configs.step hst35; replace f_a_segments := f_a_segments.step hst35; replace f_a_routes := f_a_routes.step hst35; replace f_a_airports := f_a_airports.step hst35; replace f_a_classes := f_a_classes.step hst35; replace f_a_rules := f_a_rules.step hst35; replace ch17 := ch17.trans hst35
    have ch38 := hst35
    refine Wp_seq ?_
    refine Wp_seq ?_
    refine Wp_region ?_
    refine Rg_op rfl (op_move (v := (Value.int .i64 i_2)) rfl ?_)
    refine Rg_op rfl (op_fieldAddr ty31 rfl ty24 (by decide) rfl (rfl : _ = (⟨_, 2, none⟩ : Addr)) ?_)
    refine Rg_op rfl (op_load (cs := [(Value.slice a_a_volumes a.volumes.length c_a_volumes), (Value.slice a_a_sectors a.sectors.length c_a_sectors), (Value.slice a_a_configs a.configs.length c_a_configs), (Value.slice a_a_segments a.segments.length c_a_segments), (Value.slice a_a_routes a.routes.length c_a_routes), (Value.slice a_a_airports a.airports.length c_a_airports), (Value.slice a_a_classes a.classes.length c_a_classes), (Value.slice a_a_rules a.rules.length c_a_rules)]) (i := 0) ty24 hs34 rfl rfl rfl ?_)
    refine Rg_op rfl (op_len Try.underlying24 rfl ?_)
    refine Rg_op rfl (op_lss rfl rfl ?_)
    refine Rg_nil ?_
    refine Wp_cond rfl (fun hc39 => ?_) (fun hc39 => ?_)
    ·
     replace hm := bif_t hm hc39
     refine Wp_skip ?_
     refine Wp_seq ?_
     refine Wp_block ?_
     refine Wp_seq ?_
     refine Wp_region ?_
     refine Rg_op rfl (op_fieldAddr ty31 rfl ty24 (by decide) rfl (rfl : _ = (⟨_, 2, none⟩ : Addr)) ?_)
     refine Rg_op rfl (op_load (cs := [(Value.slice a_a_volumes a.volumes.length c_a_volumes), (Value.slice a_a_sectors a.sectors.length c_a_sectors), (Value.slice a_a_configs a.configs.length c_a_configs), (Value.slice a_a_segments a.segments.length c_a_segments), (Value.slice a_a_routes a.routes.length c_a_routes), (Value.slice a_a_airports a.airports.length c_a_airports), (Value.slice a_a_classes a.classes.length c_a_classes), (Value.slice a_a_rules a.rules.length c_a_rules)]) (i := 0) ty24 hs34 rfl rfl rfl ?_)
     refine Rg_op rfl (op_move (v := (Value.int .i64 i_2)) rfl ?_)
     replace hm := ck_some hm; obtain ⟨hc40, hm⟩ := hm
     refine Rg_op rfl (op_indexAddr (q := rXConfig) ty24 ty52 rfl rfl f_a_configs rfl hc40.1 hc40.2 ?_)
     intro p41 f42
     refine Rg_op rfl (op_fieldAddr ty52 rfl ty39 (by decide) rfl rfl ?_)
     have f43 := f42.via.snd.snd
     refine Rg_op rfl (op_loadP ty39 rfl f43 rfl ?_)
     intro v44 h45
     obtain ⟨a_y46, c_y46, rfl, f_y46⟩ := un_sl h45
     refine Rg_op rfl (op_len Try.underlying39 rfl ?_)
     refine Rg_op rfl (op_gtr rfl rfl ?_)
     refine Rg_nil ?_
     refine Wp_cond rfl (fun hc47 => ?_) (fun hc47 => ?_)
     ·
      replace hm := bif_t hm hc47
      refine Wp_seq ?_
      clear f42 f43 f_y46
      refine Wp_region ?_
      refine Rg_op rfl (op_assign (v := (Value.bool false)) rfl ?_)
      refine Rg_nil ?_
      refine Wp_ret ?_
      have hz := step_all hs34
      replace f_a_volumes := f_a_volumes.step hz; replace f_a_sectors := f_a_sectors.step hz; replace f_a_configs := f_a_configs.step hz; replace f_a_segments := f_a_segments.step hz; replace f_a_routes := f_a_routes.step hz; replace f_a_airports := f_a_airports.step hz; replace f_a_classes := f_a_classes.step hz; replace f_a_rules := f_a_rules.step hz
      refine ⟨_, (show Closes [] _ _ from rfl), [(Value.bool false)], ⟨rfl, trivial⟩, hs34.ext, ?_⟩
      exact Vr.eq (a := vB) (x := false) rfl (Option.some.inj hm)
     ·
      replace hm := bif_f hm hc47
      refine Wp_skip ?_
      clear f42 f43 f_y46
      refine Wp_region ?_
      refine Rg_op rfl (op_move (v := (Value.int .i64 i_2)) rfl ?_)
      refine Rg_op rfl (op_addw rfl rfl ?_)
      refine Rg_op rfl (op_assign (v := (Value.int .i64 (IntKind.wrap .i64 (i_2 + 1)))) rfl ?_)
      refine Rg_nil ?_
      exact hK31 _ _ ⟨(IntKind.wrap .i64 (i_2 + 1)), _, rfl, ⟨(by repeat (first | with_reducible exact Out.refl _ _ | refine Out.upd ?_ rfl | refine Out.updL ?_ rfl | refine Out.mix' ?_ rfl | exact Out.refl _ _)), rfl, rfl, trivial⟩, ch38, hs34, (inK_wrap .i64 _), jnE1 hsf30 hm⟩
    ·
     replace hm := bif_f hm hc39
     refine Wp_exit ?_
     refine Wp_seq ?_
     refine Wp_region ?_
     refine Rg_op rfl (op_fieldAddr ty31 rfl ty22 (by decide) rfl (rfl : _ = (⟨_, 0, none⟩ : Addr)) ?_)
     refine Rg_op rfl (op_load (cs := [(Value.slice a_a_volumes a.volumes.length c_a_volumes), (Value.slice a_a_sectors a.sectors.length c_a_sectors), (Value.slice a_a_configs a.configs.length c_a_configs), (Value.slice a_a_segments a.segments.length c_a_segments), (Value.slice a_a_routes a.routes.length c_a_routes), (Value.slice a_a_airports a.airports.length c_a_airports), (Value.slice a_a_classes a.classes.length c_a_classes), (Value.slice a_a_rules a.rules.length c_a_rules)]) (i := 0) ty22 hs34 rfl rfl rfl ?_)
     refine Rg_op rfl (op_len Try.underlying22 rfl ?_)
     refine Rg_op rfl (op_leq rfl rfl ?_)
     refine Rg_op rfl (op_move (v := (Value.bool (decide ((a.volumes.length : Int) ≤ 6)))) rfl ?_)
     refine Rg_case (fun hg48 => ?_) (fun hg48 => ?_)
     ·
      replace hm := bif_t hm hg48
      refine Rg_opg rfl rfl rfl (op_fieldAddr ty31 rfl ty23 (by decide) rfl (rfl : _ = (⟨_, 1, none⟩ : Addr)) ?_)
      refine Rg_opg rfl rfl rfl (op_load (cs := [(Value.slice a_a_volumes a.volumes.length c_a_volumes), (Value.slice a_a_sectors a.sectors.length c_a_sectors), (Value.slice a_a_configs a.configs.length c_a_configs), (Value.slice a_a_segments a.segments.length c_a_segments), (Value.slice a_a_routes a.routes.length c_a_routes), (Value.slice a_a_airports a.airports.length c_a_airports), (Value.slice a_a_classes a.classes.length c_a_classes), (Value.slice a_a_rules a.rules.length c_a_rules)]) (i := 0) ty23 hs34 rfl rfl rfl ?_)
      refine Rg_opg rfl rfl rfl (op_len Try.underlying23 rfl ?_)
      refine Rg_opg rfl rfl rfl (op_leq rfl rfl ?_)
      refine Rg_op rfl (op_pick_t (v := (Value.bool (decide ((a.sectors.length : Int) ≤ 12)))) rfl rfl ?_)
      refine Rg_op rfl (op_move (v := (Value.bool (decide ((a.sectors.length : Int) ≤ 12)))) rfl ?_)
      refine Rg_case (fun hg49 => ?_) (fun hg49 => ?_)
      ·
       replace hm := bif_t hm hg49
       refine Rg_opg rfl rfl rfl (op_fieldAddr ty31 rfl ty24 (by decide) rfl (rfl : _ = (⟨_, 2, none⟩ : Addr)) ?_)
       refine Rg_opg rfl rfl rfl (op_load (cs := [(Value.slice a_a_volumes a.volumes.length c_a_volumes), (Value.slice a_a_sectors a.sectors.length c_a_sectors), (Value.slice a_a_configs a.configs.length c_a_configs), (Value.slice a_a_segments a.segments.length c_a_segments), (Value.slice a_a_routes a.routes.length c_a_routes), (Value.slice a_a_airports a.airports.length c_a_airports), (Value.slice a_a_classes a.classes.length c_a_classes), (Value.slice a_a_rules a.rules.length c_a_rules)]) (i := 0) ty24 hs34 rfl rfl rfl ?_)
       refine Rg_opg rfl rfl rfl (op_len Try.underlying24 rfl ?_)
       refine Rg_opg rfl rfl rfl (op_leq rfl rfl ?_)
       refine Rg_op rfl (op_pick_t (v := (Value.bool (decide ((a.configs.length : Int) ≤ 7)))) rfl rfl ?_)
       refine Rg_op rfl (op_assign (v := (Value.bool (decide ((a.configs.length : Int) ≤ 7)))) rfl ?_)
       refine Rg_nil ?_
       refine Wp_ret ?_
       have hz := step_all hs34
       replace f_a_volumes := f_a_volumes.step hz; replace f_a_sectors := f_a_sectors.step hz; replace f_a_configs := f_a_configs.step hz; replace f_a_segments := f_a_segments.step hz; replace f_a_routes := f_a_routes.step hz; replace f_a_airports := f_a_airports.step hz; replace f_a_classes := f_a_classes.step hz; replace f_a_rules := f_a_rules.step hz
       refine ⟨_, (show Closes [] _ _ from rfl), [(Value.bool (decide ((a.configs.length : Int) ≤ 7)))], ⟨rfl, trivial⟩, hs34.ext, ?_⟩
       exact Vr.eq (a := vB) (x := (decide ((a.configs.length : Int) ≤ 7))) rfl (Option.some.inj hm)
      ·
       replace hm := bif_f hm hg49
       iterate 4 refine Rg_opx rfl (asB_ne rfl rfl) rfl ?_
       refine Rg_op rfl (op_pick_f (v := (Value.bool false)) rfl rfl ?_)
       refine Rg_op rfl (op_assign (v := (Value.bool false)) rfl ?_)
       refine Rg_nil ?_
       refine Wp_ret ?_
       have hz := step_all hs34
       replace f_a_volumes := f_a_volumes.step hz; replace f_a_sectors := f_a_sectors.step hz; replace f_a_configs := f_a_configs.step hz; replace f_a_segments := f_a_segments.step hz; replace f_a_routes := f_a_routes.step hz; replace f_a_airports := f_a_airports.step hz; replace f_a_classes := f_a_classes.step hz; replace f_a_rules := f_a_rules.step hz
       refine ⟨_, (show Closes [] _ _ from rfl), [(Value.bool false)], ⟨rfl, trivial⟩, hs34.ext, ?_⟩
       exact Vr.eq (a := vB) (x := false) rfl (Option.some.inj hm)
     ·
      replace hm := bif_f hm hg48
      iterate 4 refine Rg_opx rfl (asB_ne rfl rfl) rfl ?_
      refine Rg_op rfl (op_pick_f (v := (Value.bool false)) rfl rfl ?_)
      refine Rg_op rfl (op_move (v := (Value.bool false)) rfl ?_)
      iterate 4 refine Rg_opx rfl (asB_ne rfl rfl) rfl ?_
      refine Rg_op rfl (op_pick_f (v := (Value.bool false)) rfl rfl ?_)
      refine Rg_op rfl (op_assign (v := (Value.bool false)) rfl ?_)
      refine Rg_nil ?_
      refine Wp_ret ?_
      have hz := step_all hs34
      replace f_a_volumes := f_a_volumes.step hz; replace f_a_sectors := f_a_sectors.step hz; replace f_a_configs := f_a_configs.step hz; replace f_a_segments := f_a_segments.step hz; replace f_a_routes := f_a_routes.step hz; replace f_a_airports := f_a_airports.step hz; replace f_a_classes := f_a_classes.step hz; replace f_a_rules := f_a_rules.step hz
      refine ⟨_, (show Closes [] _ _ from rfl), [(Value.bool false)], ⟨rfl, trivial⟩, hs34.ext, ?_⟩
      exact Vr.eq (a := vB) (x := false) rfl (Option.some.inj hm)

end Go.Fx



set_option linter.unusedVariables false
set_option linter.unusedSimpArgs false
set_option maxRecDepth 100000
set_option maxHeartbeats 0
namespace Go.Fx
open Go Go.RowKit Go.Proofs
def m9_overflightlaw10_ConfigsStuck_B1 (a : XAirspace) (stuck_1 : Int × Int × Bool × Int) (v_2 : Int) (sf86 : Int → Option Bool) (sf99 : Int → Option Bool) (v_3 : Int) : Option Bool :=
 bif (decide (v_3 < (a.configs.length : Int))) then
  jn (fun (before_1 : Bool) =>
   (m22_configs_Path a v_2 v_3).bind fun path_1 =>
   jn (fun (v_4 : Bool) =>
    bif v_4 then
     some false
    else
     sf99 (IntKind.wrap .i64 (v_3 + 1)))
   (fun k138 =>
    bif (decide (path_1.2.2 ≠ 0)) then
     k138 true
    else
     bif before_1 then
      bif (!path_1.2.1) then
       k138 true
      else
       bif stuck_1.2.2.1 then
        bif (decide (v_2 = stuck_1.1)) then
         bif (decide (v_3 = stuck_1.2.1)) then
          k138 path_1.2.1
         else
          k138 false
        else
         k138 false
       else
        k138 false
     else
      bif (!stuck_1.2.2.1) then
       bif (!path_1.2.1) then
        k138 true
       else
        bif stuck_1.2.2.1 then
         bif (decide (v_2 = stuck_1.1)) then
          bif (decide (v_3 = stuck_1.2.1)) then
           k138 path_1.2.1
          else
           k138 false
         else
          k138 false
        else
         k138 false
      else
       bif stuck_1.2.2.1 then
        bif (decide (v_2 = stuck_1.1)) then
         bif (decide (v_3 = stuck_1.2.1)) then
          k138 path_1.2.1
         else
          k138 false
        else
         k138 false
       else
        k138 false))
  (fun k112 =>
   bif (decide (v_2 < stuck_1.1)) then
    k112 true
   else
    bif (decide (v_2 = stuck_1.1)) then
     k112 (decide (v_3 < stuck_1.2.1))
    else
     k112 false)
 else
  sf86 (IntKind.wrap .i64 (v_2 + 1))

def m9_overflightlaw10_ConfigsStuck_B0 (a : XAirspace) (stuck_1 : Int × Int × Bool × Int) (sf86 : Int → Option Bool) (v_2 : Int) : Option Bool :=
 bif (decide (v_2 < (a.configs.length : Int))) then
  loop1 (m9_overflightlaw10_ConfigsStuck_B1 a stuck_1 v_2 sf86) (((a.configs.length : Int) - 0).toNat + 1) 0
 else
  bif stuck_1.2.2.1 then
   some true
  else
   bif (decide (stuck_1.1 = 0)) then
    some (decide (stuck_1.2.1 = 0))
   else
    some false

def m9_overflightlaw10_ConfigsStuck (a : XAirspace) : Option Bool :=
 (m11_overflightlaw10_sane).bind fun sane_1 =>
 bif (!sane_1) then
  some false
 else
  (m12_overflightref10_Few a).bind fun few_1 =>
  bif (!few_1) then
   some true
  else
   (m24_configs_Stuck a).bind fun stuck_1 =>
   (m17_configs_Reach a 0).bind fun reach_1 =>
   bif (decide (stuck_1.2.2.2 ≠ 0)) then
    bif (!stuck_1.2.2.1) then
     (m15_configs_Check a).bind fun check_1 =>
     some (decide (check_1 = stuck_1.2.2.2))
    else
     some false
   else
    jn (fun (v_1 : Bool) =>
     bif v_1 then
      some false
     else
      loop1 (m9_overflightlaw10_ConfigsStuck_B0 a stuck_1) (((a.configs.length : Int) - 0).toNat + 1) 0)
    (fun k73 =>
     bif (decide (reach_1.2 ≠ 0)) then
      k73 true
     else
      k73 (!(stuck_1.2.2.1 == (decide ((reach_1.1.length : Int) < (a.configs.length : Int))))))

theorem c9_overflightlaw10_ConfigsStuck {w : World} {O : List Nat} {a : XAirspace} {a_a_volumes : Option Addr} {c_a_volumes : Nat} {a_a_sectors : Option Addr} {c_a_sectors : Nat} {a_a_configs : Option Addr} {c_a_configs : Nat} {a_a_segments : Option Addr} {c_a_segments : Nat} {a_a_routes : Option Addr} {c_a_routes : Nat} {a_a_airports : Option Addr} {c_a_airports : Nat} {a_a_classes : Option Addr} {c_a_classes : Nat} {a_a_rules : Option Addr} {c_a_rules : Nat} (hO : ∀ k ∈ O, k < w.heap.size) (f_a_volumes : SlR rXVolume w O a_a_volumes c_a_volumes a.volumes) (f_a_sectors : SlR rXSector w O a_a_sectors c_a_sectors a.sectors) (f_a_configs : SlR rXConfig w O a_a_configs c_a_configs a.configs) (f_a_segments : SlR rXSegment w O a_a_segments c_a_segments a.segments) (f_a_routes : SlR rXRoute w O a_a_routes c_a_routes a.routes) (f_a_airports : SlR rXAirport w O a_a_airports c_a_airports a.airports) (f_a_classes : SlR rXClass w O a_a_classes c_a_classes a.classes) (f_a_rules : SlR rXRule w O a_a_rules c_a_rules a.rules) {x : Bool} (hm : m9_overflightlaw10_ConfigsStuck a = some x) :
  Ok Try.prog 9 [(Value.agg [(Value.slice a_a_volumes a.volumes.length c_a_volumes), (Value.slice a_a_sectors a.sectors.length c_a_sectors), (Value.slice a_a_configs a.configs.length c_a_configs), (Value.slice a_a_segments a.segments.length c_a_segments), (Value.slice a_a_routes a.routes.length c_a_routes), (Value.slice a_a_airports a.airports.length c_a_airports), (Value.slice a_a_classes a.classes.length c_a_classes), (Value.slice a_a_rules a.rules.length c_a_rules)].toArray)] w O vB x := by
 unfold m9_overflightlaw10_ConfigsStuck at hm
 refine Fn_of_Wp (n := 127) (xs := [.tmp 2]) Try.func9 rfl Try.ntmps9 Try.results9 rfl ?_
 have hs := St.start hO
 refine Wp_seq ?_
 refine Wp_region ?_
 refine Rg_op rfl (op_box (cs := [(Value.slice a_a_volumes a.volumes.length c_a_volumes), (Value.slice a_a_sectors a.sectors.length c_a_sectors), (Value.slice a_a_configs a.configs.length c_a_configs), (Value.slice a_a_segments a.segments.length c_a_segments), (Value.slice a_a_routes a.routes.length c_a_routes), (Value.slice a_a_airports a.airports.length c_a_airports), (Value.slice a_a_classes a.classes.length c_a_classes), (Value.slice a_a_rules a.rules.length c_a_rules)]) hs rfl rfl ?_)
 intro b1 w2 _ p3 hs4
 replace f_a_volumes := f_a_volumes.step p3; replace f_a_sectors := f_a_sectors.step p3; replace f_a_configs := f_a_configs.step p3; replace f_a_segments := f_a_segments.step p3; replace f_a_routes := f_a_routes.step p3; replace f_a_airports := f_a_airports.step p3; replace f_a_classes := f_a_classes.step p3; replace f_a_rules := f_a_rules.step p3; clear p3
 refine Rg_op rfl (op_assign (v := (Value.bool false)) rfl ?_)
 refine Rg_nil ?_
 refine Wp_seq ?_
 refine Wp_seq ?_
 refine Wp_region ?_
 replace hm := bd hm; obtain ⟨sane_1, hv6, hm⟩ := hm
 refine Rg_op rfl (op_call Try.call11 (c11_overflightlaw10_sane  hs4.ltw  hv6) rfl ?_)
 rintro v7 w8 ⟨hx9, h10⟩
 have hs11 := hs4.call hx9
 have p12 := Step.ext (O := ks [(some b1, Obj.cells [(Value.slice a_a_volumes a.volumes.length c_a_volumes), (Value.slice a_a_sectors a.sectors.length c_a_sectors), (Value.slice a_a_configs a.configs.length c_a_configs), (Value.slice a_a_segments a.segments.length c_a_segments), (Value.slice a_a_routes a.routes.length c_a_routes), (Value.slice a_a_airports a.airports.length c_a_airports), (Value.slice a_a_classes a.classes.length c_a_classes), (Value.slice a_a_rules a.rules.length c_a_rules)].toArray 31)] O) hx9
 clear hx9
 replace f_a_volumes := f_a_volumes.step p12; replace f_a_sectors := f_a_sectors.step p12; replace f_a_configs := f_a_configs.step p12; replace f_a_segments := f_a_segments.step p12; replace f_a_routes := f_a_routes.step p12; replace f_a_airports := f_a_airports.step p12; replace f_a_classes := f_a_classes.step p12; replace f_a_rules := f_a_rules.step p12; clear p12 hs4
 obtain rfl := h10
 refine Rg_op rfl (op_not rfl ?_)
 refine Rg_nil ?_
 refine Wp_cond rfl (fun hc14 => ?_) (fun hc14 => ?_)
 ·
  replace hm := bif_t hm hc14
  refine Wp_seq ?_
  obtain ⟨hs15, p16⟩ := hs11.sub (bs' := []) (.cons _ List.Sublist.slnil)
  clear f_a_volumes f_a_sectors f_a_configs f_a_segments f_a_routes f_a_airports f_a_classes f_a_rules
  clear p16 hs11
  refine Wp_region ?_
  refine Rg_op rfl (op_assign (v := (Value.bool false)) rfl ?_)
  refine Rg_nil ?_
  refine Wp_ret ?_
  have hz := step_all hs15
  refine ⟨_, (show Closes [] _ _ from rfl), [(Value.bool false)], ⟨rfl, trivial⟩, hs15.ext, ?_⟩
  exact Vr.eq (a := vB) (x := false) rfl (Option.some.inj hm)
 ·
  replace hm := bif_f hm hc14
  refine Wp_skip ?_
  refine Wp_seq ?_
  refine Wp_seq ?_
  refine Wp_region ?_
  refine Rg_op rfl (op_loadA (cs := [(Value.slice a_a_volumes a.volumes.length c_a_volumes), (Value.slice a_a_sectors a.sectors.length c_a_sectors), (Value.slice a_a_configs a.configs.length c_a_configs), (Value.slice a_a_segments a.segments.length c_a_segments), (Value.slice a_a_routes a.routes.length c_a_routes), (Value.slice a_a_airports a.airports.length c_a_airports), (Value.slice a_a_classes a.classes.length c_a_classes), (Value.slice a_a_rules a.rules.length c_a_rules)]) (vs := [(Value.slice a_a_volumes a.volumes.length c_a_volumes), (Value.slice a_a_sectors a.sectors.length c_a_sectors), (Value.slice a_a_configs a.configs.length c_a_configs), (Value.slice a_a_segments a.segments.length c_a_segments), (Value.slice a_a_routes a.routes.length c_a_routes), (Value.slice a_a_airports a.airports.length c_a_airports), (Value.slice a_a_classes a.classes.length c_a_classes), (Value.slice a_a_rules a.rules.length c_a_rules)]) (i := 0) ty31 hs11 rfl rfl rfl rfl ?_)
  replace hm := bd hm; obtain ⟨few_1, hv17, hm⟩ := hm
  refine Rg_op rfl (op_call Try.call12 (c12_overflightref10_Few (a := a) hs11.ltw f_a_volumes f_a_sectors f_a_configs f_a_segments f_a_routes f_a_airports f_a_classes f_a_rules hv17) rfl ?_)
  rintro v18 w19 ⟨hx20, h21⟩
  have hs22 := hs11.call hx20
  have p23 := Step.ext (O := ks [(some b1, Obj.cells [(Value.slice a_a_volumes a.volumes.length c_a_volumes), (Value.slice a_a_sectors a.sectors.length c_a_sectors), (Value.slice a_a_configs a.configs.length c_a_configs), (Value.slice a_a_segments a.segments.length c_a_segments), (Value.slice a_a_routes a.routes.length c_a_routes), (Value.slice a_a_airports a.airports.length c_a_airports), (Value.slice a_a_classes a.classes.length c_a_classes), (Value.slice a_a_rules a.rules.length c_a_rules)].toArray 31)] O) hx20
  clear hx20
  replace f_a_volumes := f_a_volumes.step p23; replace f_a_sectors := f_a_sectors.step p23; replace f_a_configs := f_a_configs.step p23; replace f_a_segments := f_a_segments.step p23; replace f_a_routes := f_a_routes.step p23; replace f_a_airports := f_a_airports.step p23; replace f_a_classes := f_a_classes.step p23; replace f_a_rules := f_a_rules.step p23; clear p23 hs11
  obtain rfl := h21
  refine Rg_op rfl (op_not rfl ?_)
  refine Rg_nil ?_
  refine Wp_cond rfl (fun hc25 => ?_) (fun hc25 => ?_)
  ·
   replace hm := bif_t hm hc25
   refine Wp_seq ?_
   obtain ⟨hs26, p27⟩ := hs22.sub (bs' := []) (.cons _ List.Sublist.slnil)
   clear f_a_volumes f_a_sectors f_a_configs f_a_segments f_a_routes f_a_airports f_a_classes f_a_rules
   clear p27 hs22
   refine Wp_region ?_
   refine Rg_op rfl (op_assign (v := (Value.bool true)) rfl ?_)
   refine Rg_nil ?_
   refine Wp_ret ?_
   have hz := step_all hs26
   refine ⟨_, (show Closes [] _ _ from rfl), [(Value.bool true)], ⟨rfl, trivial⟩, hs26.ext, ?_⟩
   exact Vr.eq (a := vB) (x := true) rfl (Option.some.inj hm)
  ·
   replace hm := bif_f hm hc25
   refine Wp_skip ?_
   refine Wp_seq ?_
   refine Wp_region ?_
   refine Rg_op rfl (op_loadA (cs := [(Value.slice a_a_volumes a.volumes.length c_a_volumes), (Value.slice a_a_sectors a.sectors.length c_a_sectors), (Value.slice a_a_configs a.configs.length c_a_configs), (Value.slice a_a_segments a.segments.length c_a_segments), (Value.slice a_a_routes a.routes.length c_a_routes), (Value.slice a_a_airports a.airports.length c_a_airports), (Value.slice a_a_classes a.classes.length c_a_classes), (Value.slice a_a_rules a.rules.length c_a_rules)]) (vs := [(Value.slice a_a_volumes a.volumes.length c_a_volumes), (Value.slice a_a_sectors a.sectors.length c_a_sectors), (Value.slice a_a_configs a.configs.length c_a_configs), (Value.slice a_a_segments a.segments.length c_a_segments), (Value.slice a_a_routes a.routes.length c_a_routes), (Value.slice a_a_airports a.airports.length c_a_airports), (Value.slice a_a_classes a.classes.length c_a_classes), (Value.slice a_a_rules a.rules.length c_a_rules)]) (i := 0) ty31 hs22 rfl rfl rfl rfl ?_)
   replace hm := bd hm; obtain ⟨stuck_1, hv28, hm⟩ := hm
   refine Rg_op rfl (op_call Try.call24 (c24_configs_Stuck (a := a) hs22.ltw f_a_volumes f_a_sectors f_a_configs f_a_segments f_a_routes f_a_airports f_a_classes f_a_rules hv28) rfl ?_)
   rintro v29 w30 ⟨hx31, h32⟩
   have hs33 := hs22.call hx31
   have p34 := Step.ext (O := ks [(some b1, Obj.cells [(Value.slice a_a_volumes a.volumes.length c_a_volumes), (Value.slice a_a_sectors a.sectors.length c_a_sectors), (Value.slice a_a_configs a.configs.length c_a_configs), (Value.slice a_a_segments a.segments.length c_a_segments), (Value.slice a_a_routes a.routes.length c_a_routes), (Value.slice a_a_airports a.airports.length c_a_airports), (Value.slice a_a_classes a.classes.length c_a_classes), (Value.slice a_a_rules a.rules.length c_a_rules)].toArray 31)] O) hx31
   clear hx31
   replace f_a_volumes := f_a_volumes.step p34; replace f_a_sectors := f_a_sectors.step p34; replace f_a_configs := f_a_configs.step p34; replace f_a_segments := f_a_segments.step p34; replace f_a_routes := f_a_routes.step p34; replace f_a_airports := f_a_airports.step p34; replace f_a_classes := f_a_classes.step p34; replace f_a_rules := f_a_rules.step p34; clear p34 hs22
   obtain ⟨v35, v36, v37, v38, rfl, h39, h40, h41, h42⟩ := h32
   obtain ⟨rfl, r_y43⟩ := h39
   obtain ⟨rfl, r_y44⟩ := h40
   obtain rfl := h41
   obtain ⟨rfl, r_y46⟩ := h42
   refine Rg_op rfl (op_move (v := (Value.tuple [(Value.int .i64 stuck_1.1), (Value.int .i64 stuck_1.2.1), (Value.bool stuck_1.2.2.1), (Value.int .i64 stuck_1.2.2.2)].toArray)) rfl ?_)
   refine Rg_op rfl (op_extract (v := (Value.int .i64 stuck_1.1)) rfl rfl ?_)
   refine Rg_op rfl (op_extract (v := (Value.int .i64 stuck_1.2.1)) rfl rfl ?_)
   refine Rg_op rfl (op_extract (v := (Value.bool stuck_1.2.2.1)) rfl rfl ?_)
   refine Rg_op rfl (op_extract (v := (Value.int .i64 stuck_1.2.2.2)) rfl rfl ?_)
   refine Rg_op rfl (op_assign (v := (Value.int .i64 stuck_1.1)) rfl ?_)
   refine Rg_op rfl (op_assign (v := (Value.int .i64 stuck_1.2.1)) rfl ?_)
   refine Rg_op rfl (op_assign (v := (Value.bool stuck_1.2.2.1)) rfl ?_)
   refine Rg_op rfl (op_assign (v := (Value.int .i64 stuck_1.2.2.2)) rfl ?_)
   refine Rg_nil ?_
   refine Wp_seq ?_
   refine Wp_region ?_
   refine Rg_op rfl (op_loadA (cs := [(Value.slice a_a_volumes a.volumes.length c_a_volumes), (Value.slice a_a_sectors a.sectors.length c_a_sectors), (Value.slice a_a_configs a.configs.length c_a_configs), (Value.slice a_a_segments a.segments.length c_a_segments), (Value.slice a_a_routes a.routes.length c_a_routes), (Value.slice a_a_airports a.airports.length c_a_airports), (Value.slice a_a_classes a.classes.length c_a_classes), (Value.slice a_a_rules a.rules.length c_a_rules)]) (vs := [(Value.slice a_a_volumes a.volumes.length c_a_volumes), (Value.slice a_a_sectors a.sectors.length c_a_sectors), (Value.slice a_a_configs a.configs.length c_a_configs), (Value.slice a_a_segments a.segments.length c_a_segments), (Value.slice a_a_routes a.routes.length c_a_routes), (Value.slice a_a_airports a.airports.length c_a_airports), (Value.slice a_a_classes a.classes.length c_a_classes), (Value.slice a_a_rules a.rules.length c_a_rules)]) (i := 0) ty31 hs33 rfl rfl rfl rfl ?_)
   replace hm := bd hm; obtain ⟨reach_1, hv47, hm⟩ := hm
   refine Rg_op rfl (op_call Try.call17 (c17_configs_Reach (a := a) (from_ := 0) hs33.ltw f_a_volumes f_a_sectors f_a_configs f_a_segments f_a_routes f_a_airports f_a_classes f_a_rules (show InK .i64 0 from by decide) hv47) rfl ?_)
   rintro v48 w49 ⟨hx50, h51⟩
   have hs52 := hs33.call hx50
   have p53 := Step.ext (O := ks [(some b1, Obj.cells [(Value.slice a_a_volumes a.volumes.length c_a_volumes), (Value.slice a_a_sectors a.sectors.length c_a_sectors), (Value.slice a_a_configs a.configs.length c_a_configs), (Value.slice a_a_segments a.segments.length c_a_segments), (Value.slice a_a_routes a.routes.length c_a_routes), (Value.slice a_a_airports a.airports.length c_a_airports), (Value.slice a_a_classes a.classes.length c_a_classes), (Value.slice a_a_rules a.rules.length c_a_rules)].toArray 31)] O) hx50
   clear hx50
   replace f_a_volumes := f_a_volumes.step p53; replace f_a_sectors := f_a_sectors.step p53; replace f_a_configs := f_a_configs.step p53; replace f_a_segments := f_a_segments.step p53; replace f_a_routes := f_a_routes.step p53; replace f_a_airports := f_a_airports.step p53; replace f_a_classes := f_a_classes.step p53; replace f_a_rules := f_a_rules.step p53; clear p53 hs33
   obtain ⟨v54, v55, rfl, h56, h57⟩ := h51
   obtain ⟨a_y58, c_y58, rfl, f_y58⟩ := un_sl h56
   obtain ⟨rfl, r_y59⟩ := h57
   refine Rg_op rfl (op_move (v := (Value.tuple [(Value.slice a_y58 reach_1.1.length c_y58), (Value.int .i64 reach_1.2)].toArray)) rfl ?_)
   refine Rg_op rfl (op_extract (v := (Value.slice a_y58 reach_1.1.length c_y58)) rfl rfl ?_)
   refine Rg_op rfl (op_extract (v := (Value.int .i64 reach_1.2)) rfl rfl ?_)
   refine Rg_op rfl (op_assign (v := (Value.slice a_y58 reach_1.1.length c_y58)) rfl ?_)
   refine Rg_op rfl (op_assign (v := (Value.int .i64 reach_1.2)) rfl ?_)
   refine Rg_nil ?_
   refine Wp_seq ?_
   refine Wp_seq ?_
   refine Wp_reset [] [(1, (Value.pointer (some ⟨b1, 0, none⟩))), (3, (Value.int .i64 stuck_1.1)), (4, (Value.int .i64 stuck_1.2.1)), (5, (Value.bool stuck_1.2.2.1)), (6, (Value.int .i64 stuck_1.2.2.2)), (7, (Value.slice a_y58 reach_1.1.length c_y58)), (8, (Value.int .i64 reach_1.2))] rfl ⟨rfl, rfl, rfl, rfl, rfl, rfl, rfl, trivial⟩ fun ξ60 => ?_
   refine Wp_region ?_
   refine Rg_op rfl (op_move (v := (Value.int .i64 stuck_1.2.2.2)) rfl ?_)
   refine Rg_op rfl (op_neq rfl rfl ?_)
   refine Rg_nil ?_
   refine Wp_cond rfl (fun hc61 => ?_) (fun hc61 => ?_)
   ·
    replace hm := bif_t hm hc61
    refine Wp_seq ?_
    clear f_y58
    refine Wp_region ?_
    refine Rg_op rfl (op_move (v := (Value.bool stuck_1.2.2.1)) rfl ?_)
    refine Rg_op rfl (op_not rfl ?_)
    refine Rg_op rfl (op_move (v := (Value.bool (!stuck_1.2.2.1))) rfl ?_)
    refine Rg_case (fun hg62 => ?_) (fun hg62 => ?_)
    ·
     replace hm := bif_t hm hg62
     refine Rg_opg rfl rfl rfl (op_loadA (cs := [(Value.slice a_a_volumes a.volumes.length c_a_volumes), (Value.slice a_a_sectors a.sectors.length c_a_sectors), (Value.slice a_a_configs a.configs.length c_a_configs), (Value.slice a_a_segments a.segments.length c_a_segments), (Value.slice a_a_routes a.routes.length c_a_routes), (Value.slice a_a_airports a.airports.length c_a_airports), (Value.slice a_a_classes a.classes.length c_a_classes), (Value.slice a_a_rules a.rules.length c_a_rules)]) (vs := [(Value.slice a_a_volumes a.volumes.length c_a_volumes), (Value.slice a_a_sectors a.sectors.length c_a_sectors), (Value.slice a_a_configs a.configs.length c_a_configs), (Value.slice a_a_segments a.segments.length c_a_segments), (Value.slice a_a_routes a.routes.length c_a_routes), (Value.slice a_a_airports a.airports.length c_a_airports), (Value.slice a_a_classes a.classes.length c_a_classes), (Value.slice a_a_rules a.rules.length c_a_rules)]) (i := 0) ty31 hs52 rfl rfl rfl rfl ?_)
     replace hm := bd hm; obtain ⟨check_1, hv63, hm⟩ := hm
     refine Rg_opg rfl rfl rfl (op_call Try.call15 (c15_configs_Check (a := a) hs52.ltw f_a_volumes f_a_sectors f_a_configs f_a_segments f_a_routes f_a_airports f_a_classes f_a_rules hv63) rfl ?_)
     rintro v64 w65 ⟨hx66, h67⟩
     have hs68 := hs52.call hx66
     have p69 := Step.ext (O := ks [(some b1, Obj.cells [(Value.slice a_a_volumes a.volumes.length c_a_volumes), (Value.slice a_a_sectors a.sectors.length c_a_sectors), (Value.slice a_a_configs a.configs.length c_a_configs), (Value.slice a_a_segments a.segments.length c_a_segments), (Value.slice a_a_routes a.routes.length c_a_routes), (Value.slice a_a_airports a.airports.length c_a_airports), (Value.slice a_a_classes a.classes.length c_a_classes), (Value.slice a_a_rules a.rules.length c_a_rules)].toArray 31)] O) hx66
     clear hx66
     replace f_a_volumes := f_a_volumes.step p69; replace f_a_sectors := f_a_sectors.step p69; replace f_a_configs := f_a_configs.step p69; replace f_a_segments := f_a_segments.step p69; replace f_a_routes := f_a_routes.step p69; replace f_a_airports := f_a_airports.step p69; replace f_a_classes := f_a_classes.step p69; replace f_a_rules := f_a_rules.step p69; clear p69 hs52
     obtain ⟨rfl, r_y70⟩ := h67
     refine Rg_opg rfl rfl rfl (op_move (v := (Value.int .i64 stuck_1.2.2.2)) rfl ?_)
     refine Rg_opg rfl rfl rfl (op_eql rfl rfl ?_)
     refine Rg_op rfl (op_pick_t (v := (Value.bool (decide (check_1 = stuck_1.2.2.2)))) rfl rfl ?_)
     refine Rg_op rfl (op_assign (v := (Value.bool (decide (check_1 = stuck_1.2.2.2)))) rfl ?_)
     refine Rg_nil ?_
     refine Wp_ret ?_
     have hz := step_all hs68
     replace f_a_volumes := f_a_volumes.step hz; replace f_a_sectors := f_a_sectors.step hz; replace f_a_configs := f_a_configs.step hz; replace f_a_segments := f_a_segments.step hz; replace f_a_routes := f_a_routes.step hz; replace f_a_airports := f_a_airports.step hz; replace f_a_classes := f_a_classes.step hz; replace f_a_rules := f_a_rules.step hz
     refine ⟨_, (show Closes [] _ _ from rfl), [(Value.bool (decide (check_1 = stuck_1.2.2.2)))], ⟨rfl, trivial⟩, hs68.ext, ?_⟩
     exact Vr.eq (a := vB) (x := (decide (check_1 = stuck_1.2.2.2))) rfl (Option.some.inj hm)
    ·
     replace hm := bif_f hm hg62
     iterate 4 refine Rg_opx rfl (asB_ne rfl rfl) rfl ?_
     refine Rg_op rfl (op_pick_f (v := (Value.bool false)) rfl rfl ?_)
     refine Rg_op rfl (op_assign (v := (Value.bool false)) rfl ?_)
     refine Rg_nil ?_
     refine Wp_ret ?_
     have hz := step_all hs52
     replace f_a_volumes := f_a_volumes.step hz; replace f_a_sectors := f_a_sectors.step hz; replace f_a_configs := f_a_configs.step hz; replace f_a_segments := f_a_segments.step hz; replace f_a_routes := f_a_routes.step hz; replace f_a_airports := f_a_airports.step hz; replace f_a_classes := f_a_classes.step hz; replace f_a_rules := f_a_rules.step hz
     refine ⟨_, (show Closes [] _ _ from rfl), [(Value.bool false)], ⟨rfl, trivial⟩, hs52.ext, ?_⟩
     exact Vr.eq (a := vB) (x := false) rfl (Option.some.inj hm)
   ·
    replace hm := bif_f hm hc61
    refine Wp_skip ?_
    refine Wp_seq ?_
    refine Wp_reset [] [(1, (Value.pointer (some ⟨b1, 0, none⟩))), (3, (Value.int .i64 stuck_1.1)), (4, (Value.int .i64 stuck_1.2.1)), (5, (Value.bool stuck_1.2.2.1)), (7, (Value.slice a_y58 reach_1.1.length c_y58)), (8, (Value.int .i64 reach_1.2))] rfl ⟨rfl, rfl, rfl, rfl, rfl, rfl, trivial⟩ fun ξ71 => ?_
    replace hm := jn_elim hm; obtain ⟨k73, hk74, hm⟩ := hm
    refine Wp_seqJ [42, 43, 44, 45, 46, 47, 48, 49, 50, 51, 52, 53] (fun fr w' => ∃ (v_1 : Bool) (Ebs : Ents), Ebs = [(some b1, Obj.cells [(Value.slice a_a_volumes a.volumes.length c_a_volumes), (Value.slice a_a_sectors a.sectors.length c_a_sectors), (Value.slice a_a_configs a.configs.length c_a_configs), (Value.slice a_a_segments a.segments.length c_a_segments), (Value.slice a_a_routes a.routes.length c_a_routes), (Value.slice a_a_airports a.airports.length c_a_airports), (Value.slice a_a_classes a.classes.length c_a_classes), (Value.slice a_a_rules a.rules.length c_a_rules)].toArray 31)] ∧ fr [] [(53, (Value.bool v_1))] ∧ Step (ks [(some b1, Obj.cells [(Value.slice a_a_volumes a.volumes.length c_a_volumes), (Value.slice a_a_sectors a.sectors.length c_a_sectors), (Value.slice a_a_configs a.configs.length c_a_configs), (Value.slice a_a_segments a.segments.length c_a_segments), (Value.slice a_a_routes a.routes.length c_a_routes), (Value.slice a_a_airports a.airports.length c_a_airports), (Value.slice a_a_classes a.classes.length c_a_classes), (Value.slice a_a_rules a.rules.length c_a_rules)].toArray 31)] O) w49 (ks Ebs O) w' ∧ St ⟨w, [], []⟩ O w' Ebs ∧ k73 v_1 = some x) ?_ ?_
    ·
     rintro ρ80 w76 ⟨v_1, Ebs, hEbs, hfr79, hst78, hs77, hm⟩
     replace hm := jnE1 hk74 hm
     subst hEbs; rw [hfr79.eq]; clear hfr79
     replace f_a_volumes := f_a_volumes.step hst78; replace f_a_sectors := f_a_sectors.step hst78; replace f_a_configs := f_a_configs.step hst78; replace f_a_segments := f_a_segments.step hst78; replace f_a_routes := f_a_routes.step hst78; replace f_a_airports := f_a_airports.step hst78; replace f_a_classes := f_a_classes.step hst78; replace f_a_rules := f_a_rules.step hst78; replace f_y58 := f_y58.step hst78; clear hst78 hs52
     refine Wp_cond rfl (fun hc81 => ?_) (fun hc81 => ?_)
     ·
      replace hm := bif_t hm hc81
      refine Wp_seq ?_
      obtain ⟨hs82, p83⟩ := hs77.sub (bs' := []) (.cons _ List.Sublist.slnil)
      clear f_a_volumes f_a_sectors f_a_configs f_a_segments f_a_routes f_a_airports f_a_classes f_a_rules f_y58
      clear p83 hs77
      refine Wp_region ?_
      refine Rg_op rfl (op_assign (v := (Value.bool false)) rfl ?_)
      refine Rg_nil ?_
      refine Wp_ret ?_
      have hz := step_all hs82
      refine ⟨_, (show Closes [] _ _ from rfl), [(Value.bool false)], ⟨rfl, trivial⟩, hs82.ext, ?_⟩
      exact Vr.eq (a := vB) (x := false) rfl (Option.some.inj hm)
     ·
      replace hm := bif_f hm hc81
      refine Wp_skip ?_
      refine Wp_seq ?_
      refine Wp_seq ?_
      clear f_y58
      refine Wp_region ?_
      refine Rg_op rfl (op_fieldAddr ty31 rfl ty24 (by decide) rfl (rfl : _ = (⟨_, 2, none⟩ : Addr)) ?_)
      refine Rg_op rfl (op_load (cs := [(Value.slice a_a_volumes a.volumes.length c_a_volumes), (Value.slice a_a_sectors a.sectors.length c_a_sectors), (Value.slice a_a_configs a.configs.length c_a_configs), (Value.slice a_a_segments a.segments.length c_a_segments), (Value.slice a_a_routes a.routes.length c_a_routes), (Value.slice a_a_airports a.airports.length c_a_airports), (Value.slice a_a_classes a.classes.length c_a_classes), (Value.slice a_a_rules a.rules.length c_a_rules)]) (i := 0) ty24 hs77 rfl rfl rfl ?_)
      refine Rg_op rfl (op_len Try.underlying24 rfl ?_)
      refine Rg_op rfl (op_move (v := (Value.int .i64 0)) rfl ?_)
      refine Rg_nil ?_
      refine Wp_block ?_
      refine Wp_reset [] [(1, (Value.pointer (some ⟨b1, 0, none⟩))), (3, (Value.int .i64 stuck_1.1)), (4, (Value.int .i64 stuck_1.2.1)), (5, (Value.bool stuck_1.2.2.1)), (56, (Value.int .i64 (a.configs.length : Int))), (57, (Value.int .i64 0))] rfl ⟨rfl, rfl, rfl, rfl, rfl, rfl, trivial⟩ fun ξ85 => ?_
      refine Wp_loopM [2, 9, 10, 11, 12, 13, 14, 57, 58, 59, 60, 61, 62, 63, 64, 65, 66, 67, 68, 69, 70, 71, 72, 73, 74, 75, 76, 77, 78, 79, 80, 81, 82, 83, 84, 85, 86, 87, 88, 89, 90, 91, 92, 93, 94, 95, 96, 97, 98, 99, 100, 101, 102, 103, 104, 105, 106, 107, 108, 109, 110, 111, 112, 113, 114, 115, 116, 117] (fun m fr w' => ∃ (v_2 : Int) (Ebs : Ents), Ebs = [(some b1, Obj.cells [(Value.slice a_a_volumes a.volumes.length c_a_volumes), (Value.slice a_a_sectors a.sectors.length c_a_sectors), (Value.slice a_a_configs a.configs.length c_a_configs), (Value.slice a_a_segments a.segments.length c_a_segments), (Value.slice a_a_routes a.routes.length c_a_routes), (Value.slice a_a_airports a.airports.length c_a_airports), (Value.slice a_a_classes a.classes.length c_a_classes), (Value.slice a_a_rules a.rules.length c_a_rules)].toArray 31)] ∧ fr [] [(57, (Value.int .i64 v_2))] ∧ Step (ks [(some b1, Obj.cells [(Value.slice a_a_volumes a.volumes.length c_a_volumes), (Value.slice a_a_sectors a.sectors.length c_a_sectors), (Value.slice a_a_configs a.configs.length c_a_configs), (Value.slice a_a_segments a.segments.length c_a_segments), (Value.slice a_a_routes a.routes.length c_a_routes), (Value.slice a_a_airports a.airports.length c_a_airports), (Value.slice a_a_classes a.classes.length c_a_classes), (Value.slice a_a_rules a.rules.length c_a_rules)].toArray 31)] O) w76 (ks Ebs O) w' ∧ St ⟨w, [], []⟩ O w' Ebs ∧ InK .i64 v_2 ∧ loop1 (m9_overflightlaw10_ConfigsStuck_B0 a stuck_1) m v_2 = some x) (((a.configs.length : Int) - 0).toNat + 1) ⟨0, _, rfl, ⟨Out.refl _ _, rfl, rfl, trivial⟩, Step.refl _ _, hs77, (show InK .i64 0 from by decide), hm⟩ ?_ ?_
      · rintro _ _ ⟨_, _, _, _, _, _, _, hm⟩; exact loop1_z hm
      ·
       rintro m89 K88 hK88 ρ94 w90 ⟨v_2, Ebs, hEbs, hfr93, hst92, hs91, r_y84, hm⟩
       obtain ⟨sf86, hsf87, hm⟩ := loop1_s hm; unfold m9_overflightlaw10_ConfigsStuck_B0 at hm
       subst hEbs; rw [hfr93.eq]; clear hfr93
       replace f_a_volumes := f_a_volumes.step hst92; replace f_a_sectors := f_a_sectors.step hst92; replace f_a_configs := f_a_configs.step hst92; replace f_a_segments := f_a_segments.step hst92; replace f_a_routes := f_a_routes.step hst92; replace f_a_airports := f_a_airports.step hst92; replace f_a_classes := f_a_classes.step hst92; replace f_a_rules := f_a_rules.step hst92
       have ch95 := hst92
       refine Wp_seq ?_
       refine Wp_region ?_
       refine Rg_op rfl (op_lss rfl rfl ?_)
       refine Rg_nil ?_
       refine Wp_seq ?_
       refine Wp_cond rfl (fun hc96 => ?_) (fun hc96 => ?_)
       ·
        replace hm := bif_t hm hc96
        refine Wp_skip ?_
        refine Wp_seq ?_
        refine Wp_block ?_
        refine Wp_seq ?_
        refine Wp_region ?_
        refine Rg_op rfl (op_move (v := (Value.int .i64 v_2)) rfl ?_)
        refine Rg_op rfl (op_assign (v := (Value.int .i64 v_2)) rfl ?_)
        refine Rg_nil ?_
        refine Wp_seq ?_
        refine Wp_region ?_
        refine Rg_op rfl (op_fieldAddr ty31 rfl ty24 (by decide) rfl (rfl : _ = (⟨_, 2, none⟩ : Addr)) ?_)
        refine Rg_op rfl (op_load (cs := [(Value.slice a_a_volumes a.volumes.length c_a_volumes), (Value.slice a_a_sectors a.sectors.length c_a_sectors), (Value.slice a_a_configs a.configs.length c_a_configs), (Value.slice a_a_segments a.segments.length c_a_segments), (Value.slice a_a_routes a.routes.length c_a_routes), (Value.slice a_a_airports a.airports.length c_a_airports), (Value.slice a_a_classes a.classes.length c_a_classes), (Value.slice a_a_rules a.rules.length c_a_rules)]) (i := 0) ty24 hs91 rfl rfl rfl ?_)
        refine Rg_op rfl (op_len Try.underlying24 rfl ?_)
        refine Rg_op rfl (op_move (v := (Value.int .i64 0)) rfl ?_)
        refine Rg_nil ?_
        refine Wp_block ?_
        refine Wp_reset2 [2, 9, 10, 11, 12, 13, 14, 57, 58, 59, 60, 61, 62, 63, 64, 65, 66, 67, 68, 69, 70, 71, 72, 73, 74, 75, 76, 77, 78, 79, 80, 81, 82, 83, 84, 85, 86, 87, 88, 89, 90, 91, 92, 93, 94, 95, 96, 97, 98, 99, 100, 101, 102, 103, 104, 105, 106, 107, 108, 109, 110, 111, 112, 113, 114, 115, 116, 117] [] (updL ⟨ξ85, []⟩ [(1, (Value.pointer (some ⟨b1, 0, none⟩))), (3, (Value.int .i64 stuck_1.1)), (4, (Value.int .i64 stuck_1.2.1)), (5, (Value.bool stuck_1.2.2.1)), (56, (Value.int .i64 (a.configs.length : Int))), (57, (Value.int .i64 0))]) [(9, (Value.int .i64 v_2)), (57, (Value.int .i64 v_2)), (62, (Value.int .i64 (a.configs.length : Int))), (63, (Value.int .i64 0))] (by repeat (first | with_reducible exact Out.refl _ _ | refine Out.upd ?_ rfl | refine Out.updL ?_ rfl | refine Out.mix' ?_ rfl | exact Out.refl _ _)) rfl ⟨rfl, rfl, rfl, rfl, trivial⟩ fun ξ98 => ?_
        refine Wp_loopM [2, 10, 11, 12, 13, 14, 63, 64, 65, 66, 67, 68, 69, 70, 71, 72, 73, 74, 75, 76, 77, 78, 79, 80, 81, 82, 83, 84, 85, 86, 87, 88, 89, 90, 91, 92, 93, 94, 95, 96, 97, 98, 99, 100, 101, 102, 103, 104, 105, 106, 107, 108, 109, 110, 111, 112, 113, 114, 115, 116] (fun m fr w' => ∃ (v_3 : Int) (Ebs : Ents), Ebs = [(some b1, Obj.cells [(Value.slice a_a_volumes a.volumes.length c_a_volumes), (Value.slice a_a_sectors a.sectors.length c_a_sectors), (Value.slice a_a_configs a.configs.length c_a_configs), (Value.slice a_a_segments a.segments.length c_a_segments), (Value.slice a_a_routes a.routes.length c_a_routes), (Value.slice a_a_airports a.airports.length c_a_airports), (Value.slice a_a_classes a.classes.length c_a_classes), (Value.slice a_a_rules a.rules.length c_a_rules)].toArray 31)] ∧ fr [] [(63, (Value.int .i64 v_3))] ∧ Step (ks [(some b1, Obj.cells [(Value.slice a_a_volumes a.volumes.length c_a_volumes), (Value.slice a_a_sectors a.sectors.length c_a_sectors), (Value.slice a_a_configs a.configs.length c_a_configs), (Value.slice a_a_segments a.segments.length c_a_segments), (Value.slice a_a_routes a.routes.length c_a_routes), (Value.slice a_a_airports a.airports.length c_a_airports), (Value.slice a_a_classes a.classes.length c_a_classes), (Value.slice a_a_rules a.rules.length c_a_rules)].toArray 31)] O) w90 (ks Ebs O) w' ∧ St ⟨w, [], []⟩ O w' Ebs ∧ InK .i64 v_3 ∧ loop1 (m9_overflightlaw10_ConfigsStuck_B1 a stuck_1 v_2 sf86) m v_3 = some x) (((a.configs.length : Int) - 0).toNat + 1) ⟨0, _, rfl, ⟨Out.refl _ _, rfl, rfl, trivial⟩, Step.refl _ _, hs91, (show InK .i64 0 from by decide), hm⟩ ?_ ?_
        · rintro _ _ ⟨_, _, _, _, _, _, _, hm⟩; exact loop1_z hm
        ·
         rintro m102 K101 hK101 ρ107 w103 ⟨v_3, Ebs, hEbs, hfr106, hst105, hs104, r_y97, hm⟩
         obtain ⟨sf99, hsf100, hm⟩ := loop1_s hm; unfold m9_overflightlaw10_ConfigsStuck_B1 at hm
         subst hEbs; rw [hfr106.eq]; clear hfr106
         replace f_a_volumes := f_a_volumes.step hst105; replace f_a_sectors := f_a_sectors.step hst105; replace f_a_configs := f_a_configs.step hst105; replace f_a_segments := f_a_segments.step hst105; replace f_a_routes := f_a_routes.step hst105; replace f_a_airports := f_a_airports.step hst105; replace f_a_classes := f_a_classes.step hst105; replace f_a_rules := f_a_rules.step hst105; replace ch95 := ch95.trans hst105
         have ch108 := hst105
         refine Wp_seq ?_
         refine Wp_region ?_
         refine Rg_op rfl (op_lss rfl rfl ?_)
         refine Rg_nil ?_
         refine Wp_seq ?_
         refine Wp_cond rfl (fun hc109 => ?_) (fun hc109 => ?_)
         ·
          replace hm := bif_t hm hc109
          refine Wp_skip ?_
          refine Wp_seq ?_
          refine Wp_block ?_
          refine Wp_seq ?_
          refine Wp_region ?_
          refine Rg_op rfl (op_move (v := (Value.int .i64 v_3)) rfl ?_)
          refine Rg_op rfl (op_assign (v := (Value.int .i64 v_3)) rfl ?_)
          refine Rg_nil ?_
          refine Wp_reset2 [2, 10, 11, 12, 13, 14, 63, 64, 65, 66, 67, 68, 69, 70, 71, 72, 73, 74, 75, 76, 77, 78, 79, 80, 81, 82, 83, 84, 85, 86, 87, 88, 89, 90, 91, 92, 93, 94, 95, 96, 97, 98, 99, 100, 101, 102, 103, 104, 105, 106, 107, 108, 109, 110, 111, 112, 113, 114, 115, 116] [] (updL (mix [2, 9, 10, 11, 12, 13, 14, 57, 58, 59, 60, 61, 62, 63, 64, 65, 66, 67, 68, 69, 70, 71, 72, 73, 74, 75, 76, 77, 78, 79, 80, 81, 82, 83, 84, 85, 86, 87, 88, 89, 90, 91, 92, 93, 94, 95, 96, 97, 98, 99, 100, 101, 102, 103, 104, 105, 106, 107, 108, 109, 110, 111, 112, 113, 114, 115, 116, 117] [] ξ98 (updL ⟨ξ85, []⟩ [(1, (Value.pointer (some ⟨b1, 0, none⟩))), (3, (Value.int .i64 stuck_1.1)), (4, (Value.int .i64 stuck_1.2.1)), (5, (Value.bool stuck_1.2.2.1)), (56, (Value.int .i64 (a.configs.length : Int))), (57, (Value.int .i64 0))])) [(9, (Value.int .i64 v_2)), (57, (Value.int .i64 v_2)), (62, (Value.int .i64 (a.configs.length : Int))), (63, (Value.int .i64 0))]) [(10, (Value.int .i64 v_3)), (63, (Value.int .i64 v_3))] (by repeat (first | with_reducible exact Out.refl _ _ | refine Out.upd ?_ rfl | refine Out.updL ?_ rfl | refine Out.mix' ?_ rfl | exact Out.refl _ _)) rfl ⟨rfl, rfl, trivial⟩ fun ξ110 => ?_
          replace hm := jn_elim hm; obtain ⟨k112, hk113, hm⟩ := hm
          refine Wp_seqJ [11, 66, 67, 68, 69, 70, 71, 72, 73, 74, 75, 76, 77, 78] (fun fr w' => ∃ (before_1 : Bool) (Ebs : Ents), Ebs = [(some b1, Obj.cells [(Value.slice a_a_volumes a.volumes.length c_a_volumes), (Value.slice a_a_sectors a.sectors.length c_a_sectors), (Value.slice a_a_configs a.configs.length c_a_configs), (Value.slice a_a_segments a.segments.length c_a_segments), (Value.slice a_a_routes a.routes.length c_a_routes), (Value.slice a_a_airports a.airports.length c_a_airports), (Value.slice a_a_classes a.classes.length c_a_classes), (Value.slice a_a_rules a.rules.length c_a_rules)].toArray 31)] ∧ fr [] [(11, (Value.bool before_1))] ∧ Step (ks [(some b1, Obj.cells [(Value.slice a_a_volumes a.volumes.length c_a_volumes), (Value.slice a_a_sectors a.sectors.length c_a_sectors), (Value.slice a_a_configs a.configs.length c_a_configs), (Value.slice a_a_segments a.segments.length c_a_segments), (Value.slice a_a_routes a.routes.length c_a_routes), (Value.slice a_a_airports a.airports.length c_a_airports), (Value.slice a_a_classes a.classes.length c_a_classes), (Value.slice a_a_rules a.rules.length c_a_rules)].toArray 31)] O) w103 (ks Ebs O) w' ∧ St ⟨w, [], []⟩ O w' Ebs ∧ k112 before_1 = some x) ?_ ?_
          ·
           rintro ρ119 w115 ⟨before_1, Ebs, hEbs, hfr118, hst117, hs116, hm⟩
           replace hm := jnE1 hk113 hm
           subst hEbs; rw [hfr118.eq]; clear hfr118
           replace f_a_volumes := f_a_volumes.step hst117; replace f_a_sectors := f_a_sectors.step hst117; replace f_a_configs := f_a_configs.step hst117; replace f_a_segments := f_a_segments.step hst117; replace f_a_routes := f_a_routes.step hst117; replace f_a_airports := f_a_airports.step hst117; replace f_a_classes := f_a_classes.step hst117; replace f_a_rules := f_a_rules.step hst117; replace ch95 := ch95.trans hst117; replace ch108 := ch108.trans hst117; clear hst117 hs104
           refine Wp_seq ?_
           refine Wp_region ?_
           refine Rg_op rfl (op_loadA (cs := [(Value.slice a_a_volumes a.volumes.length c_a_volumes), (Value.slice a_a_sectors a.sectors.length c_a_sectors), (Value.slice a_a_configs a.configs.length c_a_configs), (Value.slice a_a_segments a.segments.length c_a_segments), (Value.slice a_a_routes a.routes.length c_a_routes), (Value.slice a_a_airports a.airports.length c_a_airports), (Value.slice a_a_classes a.classes.length c_a_classes), (Value.slice a_a_rules a.rules.length c_a_rules)]) (vs := [(Value.slice a_a_volumes a.volumes.length c_a_volumes), (Value.slice a_a_sectors a.sectors.length c_a_sectors), (Value.slice a_a_configs a.configs.length c_a_configs), (Value.slice a_a_segments a.segments.length c_a_segments), (Value.slice a_a_routes a.routes.length c_a_routes), (Value.slice a_a_airports a.airports.length c_a_airports), (Value.slice a_a_classes a.classes.length c_a_classes), (Value.slice a_a_rules a.rules.length c_a_rules)]) (i := 0) ty31 hs116 rfl rfl rfl rfl ?_)
           refine Rg_op rfl (op_move (v := (Value.int .i64 v_2)) rfl ?_)
           refine Rg_op rfl (op_move (v := (Value.int .i64 v_3)) rfl ?_)
           replace hm := bd hm; obtain ⟨path_1, hv120, hm⟩ := hm
           refine Rg_op rfl (op_call Try.call22 (c22_configs_Path (a := a) (from_ := v_2) (to := v_3) hs116.ltw f_a_volumes f_a_sectors f_a_configs f_a_segments f_a_routes f_a_airports f_a_classes f_a_rules r_y84 r_y97 hv120) rfl ?_)
           rintro v121 w122 ⟨hx123, h124⟩
           have hs125 := hs116.call hx123
           have p126 := Step.ext (O := ks [(some b1, Obj.cells [(Value.slice a_a_volumes a.volumes.length c_a_volumes), (Value.slice a_a_sectors a.sectors.length c_a_sectors), (Value.slice a_a_configs a.configs.length c_a_configs), (Value.slice a_a_segments a.segments.length c_a_segments), (Value.slice a_a_routes a.routes.length c_a_routes), (Value.slice a_a_airports a.airports.length c_a_airports), (Value.slice a_a_classes a.classes.length c_a_classes), (Value.slice a_a_rules a.rules.length c_a_rules)].toArray 31)] O) hx123
           clear hx123
           replace f_a_volumes := f_a_volumes.step p126; replace f_a_sectors := f_a_sectors.step p126; replace f_a_configs := f_a_configs.step p126; replace f_a_segments := f_a_segments.step p126; replace f_a_routes := f_a_routes.step p126; replace f_a_airports := f_a_airports.step p126; replace f_a_classes := f_a_classes.step p126; replace f_a_rules := f_a_rules.step p126; replace ch95 := ch95.trans p126; replace ch108 := ch108.trans p126; clear p126 hs116
           obtain ⟨v127, v128, v129, rfl, h130, h131, h132⟩ := h124
           obtain ⟨a_y133, c_y133, rfl, f_y133⟩ := un_sl h130
           obtain rfl := h131
           obtain ⟨rfl, r_y135⟩ := h132
           refine Rg_op rfl (op_move (v := (Value.tuple [(Value.slice a_y133 path_1.1.length c_y133), (Value.bool path_1.2.1), (Value.int .i64 path_1.2.2)].toArray)) rfl ?_)
           refine Rg_op rfl (op_extract (v := (Value.slice a_y133 path_1.1.length c_y133)) rfl rfl ?_)
           refine Rg_op rfl (op_extract (v := (Value.bool path_1.2.1)) rfl rfl ?_)
           refine Rg_op rfl (op_extract (v := (Value.int .i64 path_1.2.2)) rfl rfl ?_)
           refine Rg_op rfl (op_assign (v := (Value.slice a_y133 path_1.1.length c_y133)) rfl ?_)
           refine Rg_op rfl (op_assign (v := (Value.bool path_1.2.1)) rfl ?_)
           refine Rg_op rfl (op_assign (v := (Value.int .i64 path_1.2.2)) rfl ?_)
           refine Rg_nil ?_
           refine Wp_reset2 [2, 10, 11, 12, 13, 14, 63, 64, 65, 66, 67, 68, 69, 70, 71, 72, 73, 74, 75, 76, 77, 78, 79, 80, 81, 82, 83, 84, 85, 86, 87, 88, 89, 90, 91, 92, 93, 94, 95, 96, 97, 98, 99, 100, 101, 102, 103, 104, 105, 106, 107, 108, 109, 110, 111, 112, 113, 114, 115, 116] [] (updL (mix [2, 9, 10, 11, 12, 13, 14, 57, 58, 59, 60, 61, 62, 63, 64, 65, 66, 67, 68, 69, 70, 71, 72, 73, 74, 75, 76, 77, 78, 79, 80, 81, 82, 83, 84, 85, 86, 87, 88, 89, 90, 91, 92, 93, 94, 95, 96, 97, 98, 99, 100, 101, 102, 103, 104, 105, 106, 107, 108, 109, 110, 111, 112, 113, 114, 115, 116, 117] [] ξ98 (updL ⟨ξ85, []⟩ [(1, (Value.pointer (some ⟨b1, 0, none⟩))), (3, (Value.int .i64 stuck_1.1)), (4, (Value.int .i64 stuck_1.2.1)), (5, (Value.bool stuck_1.2.2.1)), (56, (Value.int .i64 (a.configs.length : Int))), (57, (Value.int .i64 0))])) [(9, (Value.int .i64 v_2)), (57, (Value.int .i64 v_2)), (62, (Value.int .i64 (a.configs.length : Int))), (63, (Value.int .i64 0))]) [(10, (Value.int .i64 v_3)), (11, (Value.bool before_1)), (13, (Value.bool path_1.2.1)), (14, (Value.int .i64 path_1.2.2)), (63, (Value.int .i64 v_3))] (by repeat (first | with_reducible exact Out.refl _ _ | refine Out.upd ?_ rfl | refine Out.updL ?_ rfl | refine Out.mix' ?_ rfl | exact Out.refl _ _)) rfl ⟨rfl, rfl, rfl, rfl, rfl, trivial⟩ fun ξ136 => ?_
           replace hm := jn_elim hm; obtain ⟨k138, hk139, hm⟩ := hm
           refine Wp_seqJ [87, 88, 89, 90, 91, 92, 93, 94, 95, 96, 97, 98, 99, 100, 101, 102, 103, 104, 105, 106, 107, 108, 109, 110, 111, 112, 113, 114, 115] (fun fr w' => ∃ (v_4 : Bool) (Ebs : Ents), Ebs = [(some b1, Obj.cells [(Value.slice a_a_volumes a.volumes.length c_a_volumes), (Value.slice a_a_sectors a.sectors.length c_a_sectors), (Value.slice a_a_configs a.configs.length c_a_configs), (Value.slice a_a_segments a.segments.length c_a_segments), (Value.slice a_a_routes a.routes.length c_a_routes), (Value.slice a_a_airports a.airports.length c_a_airports), (Value.slice a_a_classes a.classes.length c_a_classes), (Value.slice a_a_rules a.rules.length c_a_rules)].toArray 31)] ∧ fr [] [(115, (Value.bool v_4))] ∧ Step (ks [(some b1, Obj.cells [(Value.slice a_a_volumes a.volumes.length c_a_volumes), (Value.slice a_a_sectors a.sectors.length c_a_sectors), (Value.slice a_a_configs a.configs.length c_a_configs), (Value.slice a_a_segments a.segments.length c_a_segments), (Value.slice a_a_routes a.routes.length c_a_routes), (Value.slice a_a_airports a.airports.length c_a_airports), (Value.slice a_a_classes a.classes.length c_a_classes), (Value.slice a_a_rules a.rules.length c_a_rules)].toArray 31)] O) w122 (ks Ebs O) w' ∧ St ⟨w, [], []⟩ O w' Ebs ∧ k138 v_4 = some x) ?_ ?_
           ·
            rintro ρ145 w141 ⟨v_4, Ebs, hEbs, hfr144, hst143, hs142, hm⟩
            replace hm := jnE1 hk139 hm
            subst hEbs; rw [hfr144.eq]; clear hfr144
            replace f_a_volumes := f_a_volumes.step hst143; replace f_a_sectors := f_a_sectors.step hst143; replace f_a_configs := f_a_configs.step hst143; replace f_a_segments := f_a_segments.step hst143; replace f_a_routes := f_a_routes.step hst143; replace f_a_airports := f_a_airports.step hst143; replace f_a_classes := f_a_classes.step hst143; replace f_a_rules := f_a_rules.step hst143; replace f_y133 := f_y133.step hst143; replace ch95 := ch95.trans hst143; replace ch108 := ch108.trans hst143; clear hst143 hs125
            refine Wp_cond rfl (fun hc146 => ?_) (fun hc146 => ?_)
            ·
             replace hm := bif_t hm hc146
             refine Wp_seq ?_
             clear f_y133
             refine Wp_region ?_
             refine Rg_op rfl (op_assign (v := (Value.bool false)) rfl ?_)
             refine Rg_nil ?_
             refine Wp_ret ?_
             have hz := step_all hs142
             replace f_a_volumes := f_a_volumes.step hz; replace f_a_sectors := f_a_sectors.step hz; replace f_a_configs := f_a_configs.step hz; replace f_a_segments := f_a_segments.step hz; replace f_a_routes := f_a_routes.step hz; replace f_a_airports := f_a_airports.step hz; replace f_a_classes := f_a_classes.step hz; replace f_a_rules := f_a_rules.step hz
             refine ⟨_, (show Closes [] _ _ from rfl), [(Value.bool false)], ⟨rfl, trivial⟩, hs142.ext, ?_⟩
             exact Vr.eq (a := vB) (x := false) rfl (Option.some.inj hm)
            ·
             replace hm := bif_f hm hc146
             refine Wp_skip ?_
             clear f_y133
             refine Wp_region ?_
             refine Rg_op rfl (op_addw rfl rfl ?_)
             refine Rg_op rfl (op_move (v := (Value.int .i64 (IntKind.wrap .i64 (v_3 + 1)))) rfl ?_)
             refine Rg_nil ?_
             exact hK101 _ _ ⟨(IntKind.wrap .i64 (v_3 + 1)), _, rfl, ⟨(by repeat (first | with_reducible exact Out.refl _ _ | refine Out.upd ?_ rfl | refine Out.updL ?_ rfl | refine Out.mix' ?_ rfl | exact Out.refl _ _)), rfl, rfl, trivial⟩, ch108, hs142, (inK_wrap .i64 _), jnE1 hsf100 hm⟩
           ·
            intro K140 hK140
            have ch147 := Step.refl (ks [(some b1, Obj.cells [(Value.slice a_a_volumes a.volumes.length c_a_volumes), (Value.slice a_a_sectors a.sectors.length c_a_sectors), (Value.slice a_a_configs a.configs.length c_a_configs), (Value.slice a_a_segments a.segments.length c_a_segments), (Value.slice a_a_routes a.routes.length c_a_routes), (Value.slice a_a_airports a.airports.length c_a_airports), (Value.slice a_a_classes a.classes.length c_a_classes), (Value.slice a_a_rules a.rules.length c_a_rules)].toArray 31)] O) w122
            clear f_y133
            refine Wp_region ?_
            refine Rg_op rfl (op_move (v := (Value.int .i64 path_1.2.2)) rfl ?_)
            refine Rg_op rfl (op_neq rfl rfl ?_)
            refine Rg_op rfl (op_move (v := (Value.bool (decide (path_1.2.2 ≠ 0)))) rfl ?_)
            refine Rg_case (fun hg148 => ?_) (fun hg148 => ?_)
            ·
             replace hm := bif_t hm hg148
             iterate 9 refine Rg_opx rfl (asB_ne rfl rfl) rfl ?_
             refine Rg_op rfl (op_pick_t (v := (Value.bool true)) rfl rfl ?_)
             refine Rg_op rfl (op_move (v := (Value.bool true)) rfl ?_)
             iterate 14 refine Rg_opx rfl (asB_ne rfl rfl) rfl ?_
             refine Rg_op rfl (op_pick_t (v := (Value.bool true)) rfl rfl ?_)
             refine Rg_nil ?_
             exact hK140 _ _ ⟨true, _, rfl, ⟨(by repeat (first | with_reducible exact Out.refl _ _ | refine Out.upd ?_ rfl | refine Out.updL ?_ rfl | refine Out.mix' ?_ rfl | exact Out.refl _ _)), rfl, rfl, trivial⟩, ch147, hs125, hm⟩
            ·
             replace hm := bif_f hm hg148
             refine Rg_opg rfl rfl rfl (op_move (v := (Value.bool before_1)) rfl ?_)
             refine Rg_opg rfl rfl rfl (op_move (v := (Value.bool before_1)) rfl ?_)
             refine Rg_case (fun hg149 => ?_) (fun hg149 => ?_)
             ·
              replace hm := bif_t hm hg149
              iterate 2 refine Rg_opx rfl (asB_ne rfl rfl) rfl ?_
              refine Rg_opg rfl rfl rfl (op_pick_t (v := (Value.bool true)) rfl rfl ?_)
              refine Rg_opg rfl rfl rfl (op_move (v := (Value.bool true)) rfl ?_)
              refine Rg_opg rfl rfl rfl (op_move (v := (Value.bool path_1.2.1)) rfl ?_)
              refine Rg_opg rfl rfl rfl (op_not rfl ?_)
              refine Rg_opg rfl rfl rfl (op_pick_t (v := (Value.bool (!path_1.2.1))) rfl rfl ?_)
              refine Rg_op rfl (op_pick_f (v := (Value.bool (!path_1.2.1))) rfl rfl ?_)
              refine Rg_op rfl (op_move (v := (Value.bool (!path_1.2.1))) rfl ?_)
              refine Rg_case (fun hg150 => ?_) (fun hg150 => ?_)
              ·
               replace hm := bif_t hm hg150
               iterate 14 refine Rg_opx rfl (asB_ne rfl rfl) rfl ?_
               refine Rg_op rfl (op_pick_t (v := (Value.bool true)) rfl rfl ?_)
               refine Rg_nil ?_
               exact hK140 _ _ ⟨true, _, rfl, ⟨(by repeat (first | with_reducible exact Out.refl _ _ | refine Out.upd ?_ rfl | refine Out.updL ?_ rfl | refine Out.mix' ?_ rfl | exact Out.refl _ _)), rfl, rfl, trivial⟩, ch147, hs125, hm⟩
              ·
               replace hm := bif_f hm hg150
               refine Rg_opg rfl rfl rfl (op_move (v := (Value.bool stuck_1.2.2.1)) rfl ?_)
               refine Rg_opg rfl rfl rfl (op_move (v := (Value.bool stuck_1.2.2.1)) rfl ?_)
               refine Rg_case (fun hg151 => ?_) (fun hg151 => ?_)
               ·
                replace hm := bif_t hm hg151
                refine Rg_opg rfl rfl rfl (op_move (v := (Value.int .i64 v_2)) rfl ?_)
                refine Rg_opg rfl rfl rfl (op_move (v := (Value.int .i64 stuck_1.1)) rfl ?_)
                refine Rg_opg rfl rfl rfl (op_eql rfl rfl ?_)
                refine Rg_opg rfl rfl rfl (op_pick_t (v := (Value.bool (decide (v_2 = stuck_1.1)))) rfl rfl ?_)
                refine Rg_opg rfl rfl rfl (op_move (v := (Value.bool (decide (v_2 = stuck_1.1)))) rfl ?_)
                refine Rg_case (fun hg152 => ?_) (fun hg152 => ?_)
                ·
                 replace hm := bif_t hm hg152
                 refine Rg_opg rfl rfl rfl (op_move (v := (Value.int .i64 v_3)) rfl ?_)
                 refine Rg_opg rfl rfl rfl (op_move (v := (Value.int .i64 stuck_1.2.1)) rfl ?_)
                 refine Rg_opg rfl rfl rfl (op_eql rfl rfl ?_)
                 refine Rg_opg rfl rfl rfl (op_pick_t (v := (Value.bool (decide (v_3 = stuck_1.2.1)))) rfl rfl ?_)
                 refine Rg_opg rfl rfl rfl (op_move (v := (Value.bool (decide (v_3 = stuck_1.2.1)))) rfl ?_)
                 refine Rg_case (fun hg153 => ?_) (fun hg153 => ?_)
                 ·
                  replace hm := bif_t hm hg153
                  refine Rg_opg rfl rfl rfl (op_move (v := (Value.bool path_1.2.1)) rfl ?_)
                  refine Rg_opg rfl rfl rfl (op_pick_t (v := (Value.bool path_1.2.1)) rfl rfl ?_)
                  refine Rg_op rfl (op_pick_f (v := (Value.bool path_1.2.1)) rfl rfl ?_)
                  refine Rg_nil ?_
                  exact hK140 _ _ ⟨path_1.2.1, _, rfl, ⟨(by repeat (first | with_reducible exact Out.refl _ _ | refine Out.upd ?_ rfl | refine Out.updL ?_ rfl | refine Out.mix' ?_ rfl | exact Out.refl _ _)), rfl, rfl, trivial⟩, ch147, hs125, hm⟩
                 ·
                  replace hm := bif_f hm hg153
                  refine Rg_opx rfl (asB_ne rfl rfl) rfl ?_
                  refine Rg_opg rfl rfl rfl (op_pick_f (v := (Value.bool false)) rfl rfl ?_)
                  refine Rg_op rfl (op_pick_f (v := (Value.bool false)) rfl rfl ?_)
                  refine Rg_nil ?_
                  exact hK140 _ _ ⟨false, _, rfl, ⟨(by repeat (first | with_reducible exact Out.refl _ _ | refine Out.upd ?_ rfl | refine Out.updL ?_ rfl | refine Out.mix' ?_ rfl | exact Out.refl _ _)), rfl, rfl, trivial⟩, ch147, hs125, hm⟩
                ·
                 replace hm := bif_f hm hg152
                 iterate 3 refine Rg_opx rfl (asB_ne rfl rfl) rfl ?_
                 refine Rg_opg rfl rfl rfl (op_pick_f (v := (Value.bool false)) rfl rfl ?_)
                 refine Rg_opg rfl rfl rfl (op_move (v := (Value.bool false)) rfl ?_)
                 refine Rg_opx rfl (asB_ne rfl rfl) rfl ?_
                 refine Rg_opg rfl rfl rfl (op_pick_f (v := (Value.bool false)) rfl rfl ?_)
                 refine Rg_op rfl (op_pick_f (v := (Value.bool false)) rfl rfl ?_)
                 refine Rg_nil ?_
                 exact hK140 _ _ ⟨false, _, rfl, ⟨(by repeat (first | with_reducible exact Out.refl _ _ | refine Out.upd ?_ rfl | refine Out.updL ?_ rfl | refine Out.mix' ?_ rfl | exact Out.refl _ _)), rfl, rfl, trivial⟩, ch147, hs125, hm⟩
               ·
                replace hm := bif_f hm hg151
                iterate 3 refine Rg_opx rfl (asB_ne rfl rfl) rfl ?_
                refine Rg_opg rfl rfl rfl (op_pick_f (v := (Value.bool false)) rfl rfl ?_)
                refine Rg_opg rfl rfl rfl (op_move (v := (Value.bool false)) rfl ?_)
                iterate 3 refine Rg_opx rfl (asB_ne rfl rfl) rfl ?_
                refine Rg_opg rfl rfl rfl (op_pick_f (v := (Value.bool false)) rfl rfl ?_)
                refine Rg_opg rfl rfl rfl (op_move (v := (Value.bool false)) rfl ?_)
                refine Rg_opx rfl (asB_ne rfl rfl) rfl ?_
                refine Rg_opg rfl rfl rfl (op_pick_f (v := (Value.bool false)) rfl rfl ?_)
                refine Rg_op rfl (op_pick_f (v := (Value.bool false)) rfl rfl ?_)
                refine Rg_nil ?_
                exact hK140 _ _ ⟨false, _, rfl, ⟨(by repeat (first | with_reducible exact Out.refl _ _ | refine Out.upd ?_ rfl | refine Out.updL ?_ rfl | refine Out.mix' ?_ rfl | exact Out.refl _ _)), rfl, rfl, trivial⟩, ch147, hs125, hm⟩
             ·
              replace hm := bif_f hm hg149
              refine Rg_opg rfl rfl rfl (op_move (v := (Value.bool stuck_1.2.2.1)) rfl ?_)
              refine Rg_opg rfl rfl rfl (op_not rfl ?_)
              refine Rg_opg rfl rfl rfl (op_pick_f (v := (Value.bool (!stuck_1.2.2.1))) rfl rfl ?_)
              refine Rg_opg rfl rfl rfl (op_move (v := (Value.bool (!stuck_1.2.2.1))) rfl ?_)
              refine Rg_case (fun hg154 => ?_) (fun hg154 => ?_)
              ·
               replace hm := bif_t hm hg154
               refine Rg_opg rfl rfl rfl (op_move (v := (Value.bool path_1.2.1)) rfl ?_)
               refine Rg_opg rfl rfl rfl (op_not rfl ?_)
               refine Rg_opg rfl rfl rfl (op_pick_t (v := (Value.bool (!path_1.2.1))) rfl rfl ?_)
               refine Rg_op rfl (op_pick_f (v := (Value.bool (!path_1.2.1))) rfl rfl ?_)
               refine Rg_op rfl (op_move (v := (Value.bool (!path_1.2.1))) rfl ?_)
               refine Rg_case (fun hg155 => ?_) (fun hg155 => ?_)
               ·
                replace hm := bif_t hm hg155
                iterate 14 refine Rg_opx rfl (asB_ne rfl rfl) rfl ?_
                refine Rg_op rfl (op_pick_t (v := (Value.bool true)) rfl rfl ?_)
                refine Rg_nil ?_
                exact hK140 _ _ ⟨true, _, rfl, ⟨(by repeat (first | with_reducible exact Out.refl _ _ | refine Out.upd ?_ rfl | refine Out.updL ?_ rfl | refine Out.mix' ?_ rfl | exact Out.refl _ _)), rfl, rfl, trivial⟩, ch147, hs125, hm⟩
               ·
                replace hm := bif_f hm hg155
                refine Rg_opg rfl rfl rfl (op_move (v := (Value.bool stuck_1.2.2.1)) rfl ?_)
                refine Rg_opg rfl rfl rfl (op_move (v := (Value.bool stuck_1.2.2.1)) rfl ?_)
                refine Rg_case (fun hg156 => ?_) (fun hg156 => ?_)
                ·
                 replace hm := bif_t hm hg156
                 refine Rg_opg rfl rfl rfl (op_move (v := (Value.int .i64 v_2)) rfl ?_)
                 refine Rg_opg rfl rfl rfl (op_move (v := (Value.int .i64 stuck_1.1)) rfl ?_)
                 refine Rg_opg rfl rfl rfl (op_eql rfl rfl ?_)
                 refine Rg_opg rfl rfl rfl (op_pick_t (v := (Value.bool (decide (v_2 = stuck_1.1)))) rfl rfl ?_)
                 refine Rg_opg rfl rfl rfl (op_move (v := (Value.bool (decide (v_2 = stuck_1.1)))) rfl ?_)
                 refine Rg_case (fun hg157 => ?_) (fun hg157 => ?_)
                 ·
                  replace hm := bif_t hm hg157
                  refine Rg_opg rfl rfl rfl (op_move (v := (Value.int .i64 v_3)) rfl ?_)
                  refine Rg_opg rfl rfl rfl (op_move (v := (Value.int .i64 stuck_1.2.1)) rfl ?_)
                  refine Rg_opg rfl rfl rfl (op_eql rfl rfl ?_)
                  refine Rg_opg rfl rfl rfl (op_pick_t (v := (Value.bool (decide (v_3 = stuck_1.2.1)))) rfl rfl ?_)
                  refine Rg_opg rfl rfl rfl (op_move (v := (Value.bool (decide (v_3 = stuck_1.2.1)))) rfl ?_)
                  refine Rg_case (fun hg158 => ?_) (fun hg158 => ?_)
                  ·
                   replace hm := bif_t hm hg158
                   refine Rg_opg rfl rfl rfl (op_move (v := (Value.bool path_1.2.1)) rfl ?_)
                   refine Rg_opg rfl rfl rfl (op_pick_t (v := (Value.bool path_1.2.1)) rfl rfl ?_)
                   refine Rg_op rfl (op_pick_f (v := (Value.bool path_1.2.1)) rfl rfl ?_)
                   refine Rg_nil ?_
                   exact hK140 _ _ ⟨path_1.2.1, _, rfl, ⟨(by repeat (first | with_reducible exact Out.refl _ _ | refine Out.upd ?_ rfl | refine Out.updL ?_ rfl | refine Out.mix' ?_ rfl | exact Out.refl _ _)), rfl, rfl, trivial⟩, ch147, hs125, hm⟩
                  ·
                   replace hm := bif_f hm hg158
                   refine Rg_opx rfl (asB_ne rfl rfl) rfl ?_
                   refine Rg_opg rfl rfl rfl (op_pick_f (v := (Value.bool false)) rfl rfl ?_)
                   refine Rg_op rfl (op_pick_f (v := (Value.bool false)) rfl rfl ?_)
                   refine Rg_nil ?_
                   exact hK140 _ _ ⟨false, _, rfl, ⟨(by repeat (first | with_reducible exact Out.refl _ _ | refine Out.upd ?_ rfl | refine Out.updL ?_ rfl | refine Out.mix' ?_ rfl | exact Out.refl _ _)), rfl, rfl, trivial⟩, ch147, hs125, hm⟩
                 ·
                  replace hm := bif_f hm hg157
                  iterate 3 refine Rg_opx rfl (asB_ne rfl rfl) rfl ?_
                  refine Rg_opg rfl rfl rfl (op_pick_f (v := (Value.bool false)) rfl rfl ?_)
                  refine Rg_opg rfl rfl rfl (op_move (v := (Value.bool false)) rfl ?_)
                  refine Rg_opx rfl (asB_ne rfl rfl) rfl ?_
                  refine Rg_opg rfl rfl rfl (op_pick_f (v := (Value.bool false)) rfl rfl ?_)
                  refine Rg_op rfl (op_pick_f (v := (Value.bool false)) rfl rfl ?_)
                  refine Rg_nil ?_
                  exact hK140 _ _ ⟨false, _, rfl, ⟨(by repeat (first | with_reducible exact Out.refl _ _ | refine Out.upd ?_ rfl | refine Out.updL ?_ rfl | refine Out.mix' ?_ rfl | exact Out.refl _ _)), rfl, rfl, trivial⟩, ch147, hs125, hm⟩
                ·
                 replace hm := bif_f hm hg156
                 iterate 3 refine Rg_opx rfl (asB_ne rfl rfl) rfl ?_
                 refine Rg_opg rfl rfl rfl (op_pick_f (v := (Value.bool false)) rfl rfl ?_)
                 refine Rg_opg rfl rfl rfl (op_move (v := (Value.bool false)) rfl ?_)
                 iterate 3 refine Rg_opx rfl (asB_ne rfl rfl) rfl ?_
                 refine Rg_opg rfl rfl rfl (op_pick_f (v := (Value.bool false)) rfl rfl ?_)
                 refine Rg_opg rfl rfl rfl (op_move (v := (Value.bool false)) rfl ?_)
                 refine Rg_opx rfl (asB_ne rfl rfl) rfl ?_
                 refine Rg_opg rfl rfl rfl (op_pick_f (v := (Value.bool false)) rfl rfl ?_)
                 refine Rg_op rfl (op_pick_f (v := (Value.bool false)) rfl rfl ?_)
                 refine Rg_nil ?_
                 exact hK140 _ _ ⟨false, _, rfl, ⟨(by repeat (first | with_reducible exact Out.refl _ _ | refine Out.upd ?_ rfl | refine Out.updL ?_ rfl | refine Out.mix' ?_ rfl | exact Out.refl _ _)), rfl, rfl, trivial⟩, ch147, hs125, hm⟩
              ·
               replace hm := bif_f hm hg154
               iterate 2 refine Rg_opx rfl (asB_ne rfl rfl) rfl ?_
               refine Rg_opg rfl rfl rfl (op_pick_f (v := (Value.bool false)) rfl rfl ?_)
               refine Rg_op rfl (op_pick_f (v := (Value.bool false)) rfl rfl ?_)
               refine Rg_op rfl (op_move (v := (Value.bool false)) rfl ?_)
               refine Rg_opg rfl rfl rfl (op_move (v := (Value.bool stuck_1.2.2.1)) rfl ?_)
               refine Rg_opg rfl rfl rfl (op_move (v := (Value.bool stuck_1.2.2.1)) rfl ?_)
               refine Rg_case (fun hg159 => ?_) (fun hg159 => ?_)
               ·
                replace hm := bif_t hm hg159
                refine Rg_opg rfl rfl rfl (op_move (v := (Value.int .i64 v_2)) rfl ?_)
                refine Rg_opg rfl rfl rfl (op_move (v := (Value.int .i64 stuck_1.1)) rfl ?_)
                refine Rg_opg rfl rfl rfl (op_eql rfl rfl ?_)
                refine Rg_opg rfl rfl rfl (op_pick_t (v := (Value.bool (decide (v_2 = stuck_1.1)))) rfl rfl ?_)
                refine Rg_opg rfl rfl rfl (op_move (v := (Value.bool (decide (v_2 = stuck_1.1)))) rfl ?_)
                refine Rg_case (fun hg160 => ?_) (fun hg160 => ?_)
                ·
                 replace hm := bif_t hm hg160
                 refine Rg_opg rfl rfl rfl (op_move (v := (Value.int .i64 v_3)) rfl ?_)
                 refine Rg_opg rfl rfl rfl (op_move (v := (Value.int .i64 stuck_1.2.1)) rfl ?_)
                 refine Rg_opg rfl rfl rfl (op_eql rfl rfl ?_)
                 refine Rg_opg rfl rfl rfl (op_pick_t (v := (Value.bool (decide (v_3 = stuck_1.2.1)))) rfl rfl ?_)
                 refine Rg_opg rfl rfl rfl (op_move (v := (Value.bool (decide (v_3 = stuck_1.2.1)))) rfl ?_)
                 refine Rg_case (fun hg161 => ?_) (fun hg161 => ?_)
                 ·
                  replace hm := bif_t hm hg161
                  refine Rg_opg rfl rfl rfl (op_move (v := (Value.bool path_1.2.1)) rfl ?_)
                  refine Rg_opg rfl rfl rfl (op_pick_t (v := (Value.bool path_1.2.1)) rfl rfl ?_)
                  refine Rg_op rfl (op_pick_f (v := (Value.bool path_1.2.1)) rfl rfl ?_)
                  refine Rg_nil ?_
                  exact hK140 _ _ ⟨path_1.2.1, _, rfl, ⟨(by repeat (first | with_reducible exact Out.refl _ _ | refine Out.upd ?_ rfl | refine Out.updL ?_ rfl | refine Out.mix' ?_ rfl | exact Out.refl _ _)), rfl, rfl, trivial⟩, ch147, hs125, hm⟩
                 ·
                  replace hm := bif_f hm hg161
                  refine Rg_opx rfl (asB_ne rfl rfl) rfl ?_
                  refine Rg_opg rfl rfl rfl (op_pick_f (v := (Value.bool false)) rfl rfl ?_)
                  refine Rg_op rfl (op_pick_f (v := (Value.bool false)) rfl rfl ?_)
                  refine Rg_nil ?_
                  exact hK140 _ _ ⟨false, _, rfl, ⟨(by repeat (first | with_reducible exact Out.refl _ _ | refine Out.upd ?_ rfl | refine Out.updL ?_ rfl | refine Out.mix' ?_ rfl | exact Out.refl _ _)), rfl, rfl, trivial⟩, ch147, hs125, hm⟩
                ·
                 replace hm := bif_f hm hg160
                 iterate 3 refine Rg_opx rfl (asB_ne rfl rfl) rfl ?_
                 refine Rg_opg rfl rfl rfl (op_pick_f (v := (Value.bool false)) rfl rfl ?_)
                 refine Rg_opg rfl rfl rfl (op_move (v := (Value.bool false)) rfl ?_)
                 refine Rg_opx rfl (asB_ne rfl rfl) rfl ?_
                 refine Rg_opg rfl rfl rfl (op_pick_f (v := (Value.bool false)) rfl rfl ?_)
                 refine Rg_op rfl (op_pick_f (v := (Value.bool false)) rfl rfl ?_)
                 refine Rg_nil ?_
                 exact hK140 _ _ ⟨false, _, rfl, ⟨(by repeat (first | with_reducible exact Out.refl _ _ | refine Out.upd ?_ rfl | refine Out.updL ?_ rfl | refine Out.mix' ?_ rfl | exact Out.refl _ _)), rfl, rfl, trivial⟩, ch147, hs125, hm⟩
               ·
                replace hm := bif_f hm hg159
                iterate 3 refine Rg_opx rfl (asB_ne rfl rfl) rfl ?_
                refine Rg_opg rfl rfl rfl (op_pick_f (v := (Value.bool false)) rfl rfl ?_)
                refine Rg_opg rfl rfl rfl (op_move (v := (Value.bool false)) rfl ?_)
                iterate 3 refine Rg_opx rfl (asB_ne rfl rfl) rfl ?_
                refine Rg_opg rfl rfl rfl (op_pick_f (v := (Value.bool false)) rfl rfl ?_)
                refine Rg_opg rfl rfl rfl (op_move (v := (Value.bool false)) rfl ?_)
                refine Rg_opx rfl (asB_ne rfl rfl) rfl ?_
                refine Rg_opg rfl rfl rfl (op_pick_f (v := (Value.bool false)) rfl rfl ?_)
                refine Rg_op rfl (op_pick_f (v := (Value.bool false)) rfl rfl ?_)
                refine Rg_nil ?_
                exact hK140 _ _ ⟨false, _, rfl, ⟨(by repeat (first | with_reducible exact Out.refl _ _ | refine Out.upd ?_ rfl | refine Out.updL ?_ rfl | refine Out.mix' ?_ rfl | exact Out.refl _ _)), rfl, rfl, trivial⟩, ch147, hs125, hm⟩
          ·
           intro K114 hK114
           have ch162 := Step.refl (ks [(some b1, Obj.cells [(Value.slice a_a_volumes a.volumes.length c_a_volumes), (Value.slice a_a_sectors a.sectors.length c_a_sectors), (Value.slice a_a_configs a.configs.length c_a_configs), (Value.slice a_a_segments a.segments.length c_a_segments), (Value.slice a_a_routes a.routes.length c_a_routes), (Value.slice a_a_airports a.airports.length c_a_airports), (Value.slice a_a_classes a.classes.length c_a_classes), (Value.slice a_a_rules a.rules.length c_a_rules)].toArray 31)] O) w103
           refine Wp_region ?_
           refine Rg_op rfl (op_move (v := (Value.int .i64 v_2)) rfl ?_)
           refine Rg_op rfl (op_move (v := (Value.int .i64 stuck_1.1)) rfl ?_)
           refine Rg_op rfl (op_lss rfl rfl ?_)
           refine Rg_op rfl (op_move (v := (Value.bool (decide (v_2 < stuck_1.1)))) rfl ?_)
           refine Rg_case (fun hg163 => ?_) (fun hg163 => ?_)
           ·
            replace hm := bif_t hm hg163
            iterate 8 refine Rg_opx rfl (asB_ne rfl rfl) rfl ?_
            refine Rg_op rfl (op_pick_t (v := (Value.bool true)) rfl rfl ?_)
            refine Rg_op rfl (op_assign (v := (Value.bool true)) rfl ?_)
            refine Rg_nil ?_
            exact hK114 _ _ ⟨true, _, rfl, ⟨(by repeat (first | with_reducible exact Out.refl _ _ | refine Out.upd ?_ rfl | refine Out.updL ?_ rfl | refine Out.mix' ?_ rfl | exact Out.refl _ _)), rfl, rfl, trivial⟩, ch162, hs104, hm⟩
           ·
            replace hm := bif_f hm hg163
            refine Rg_opg rfl rfl rfl (op_move (v := (Value.int .i64 v_2)) rfl ?_)
            refine Rg_opg rfl rfl rfl (op_move (v := (Value.int .i64 stuck_1.1)) rfl ?_)
            refine Rg_opg rfl rfl rfl (op_eql rfl rfl ?_)
            refine Rg_opg rfl rfl rfl (op_move (v := (Value.bool (decide (v_2 = stuck_1.1)))) rfl ?_)
            refine Rg_case (fun hg164 => ?_) (fun hg164 => ?_)
            ·
             replace hm := bif_t hm hg164
             refine Rg_opg rfl rfl rfl (op_move (v := (Value.int .i64 v_3)) rfl ?_)
             refine Rg_opg rfl rfl rfl (op_move (v := (Value.int .i64 stuck_1.2.1)) rfl ?_)
             refine Rg_opg rfl rfl rfl (op_lss rfl rfl ?_)
             refine Rg_opg rfl rfl rfl (op_pick_t (v := (Value.bool (decide (v_3 < stuck_1.2.1)))) rfl rfl ?_)
             refine Rg_op rfl (op_pick_f (v := (Value.bool (decide (v_3 < stuck_1.2.1)))) rfl rfl ?_)
             refine Rg_op rfl (op_assign (v := (Value.bool (decide (v_3 < stuck_1.2.1)))) rfl ?_)
             refine Rg_nil ?_
             exact hK114 _ _ ⟨(decide (v_3 < stuck_1.2.1)), _, rfl, ⟨(by repeat (first | with_reducible exact Out.refl _ _ | refine Out.upd ?_ rfl | refine Out.updL ?_ rfl | refine Out.mix' ?_ rfl | exact Out.refl _ _)), rfl, rfl, trivial⟩, ch162, hs104, hm⟩
            ·
             replace hm := bif_f hm hg164
             iterate 3 refine Rg_opx rfl (asB_ne rfl rfl) rfl ?_
             refine Rg_opg rfl rfl rfl (op_pick_f (v := (Value.bool false)) rfl rfl ?_)
             refine Rg_op rfl (op_pick_f (v := (Value.bool false)) rfl rfl ?_)
             refine Rg_op rfl (op_assign (v := (Value.bool false)) rfl ?_)
             refine Rg_nil ?_
             exact hK114 _ _ ⟨false, _, rfl, ⟨(by repeat (first | with_reducible exact Out.refl _ _ | refine Out.upd ?_ rfl | refine Out.updL ?_ rfl | refine Out.mix' ?_ rfl | exact Out.refl _ _)), rfl, rfl, trivial⟩, ch162, hs104, hm⟩
         ·
          replace hm := bif_f hm hc109
          refine Wp_exit ?_
          refine Wp_region ?_
          refine Rg_op rfl (op_addw rfl rfl ?_)
          refine Rg_op rfl (op_move (v := (Value.int .i64 (IntKind.wrap .i64 (v_2 + 1)))) rfl ?_)
          refine Rg_nil ?_
          exact hK88 _ _ ⟨(IntKind.wrap .i64 (v_2 + 1)), _, rfl, ⟨(by repeat (first | with_reducible exact Out.refl _ _ | refine Out.upd ?_ rfl | refine Out.updL ?_ rfl | refine Out.mix' ?_ rfl | exact Out.refl _ _)), rfl, rfl, trivial⟩, ch95, hs104, (inK_wrap .i64 _), jnE1 hsf87 hm⟩
       ·
        replace hm := bif_f hm hc96
        refine Wp_exit ?_
        refine Wp_seq ?_
        obtain ⟨hs165, p166⟩ := hs91.sub (bs' := []) (.cons _ List.Sublist.slnil)
        clear f_a_volumes f_a_sectors f_a_configs f_a_segments f_a_routes f_a_airports f_a_classes f_a_rules
        replace ch95 := ch95.trans p166; clear p166 hs91
        refine Wp_region ?_
        refine Rg_op rfl (op_move (v := (Value.bool stuck_1.2.2.1)) rfl ?_)
        refine Rg_op rfl (op_move (v := (Value.bool stuck_1.2.2.1)) rfl ?_)
        refine Rg_case (fun hg167 => ?_) (fun hg167 => ?_)
        ·
         replace hm := bif_t hm hg167
         iterate 6 refine Rg_opx rfl (asB_ne rfl rfl) rfl ?_
         refine Rg_op rfl (op_pick_t (v := (Value.bool true)) rfl rfl ?_)
         refine Rg_op rfl (op_assign (v := (Value.bool true)) rfl ?_)
         refine Rg_nil ?_
         refine Wp_ret ?_
         have hz := step_all hs165
         refine ⟨_, (show Closes [] _ _ from rfl), [(Value.bool true)], ⟨rfl, trivial⟩, hs165.ext, ?_⟩
         exact Vr.eq (a := vB) (x := true) rfl (Option.some.inj hm)
        ·
         replace hm := bif_f hm hg167
         refine Rg_opg rfl rfl rfl (op_move (v := (Value.int .i64 stuck_1.1)) rfl ?_)
         refine Rg_opg rfl rfl rfl (op_eql rfl rfl ?_)
         refine Rg_opg rfl rfl rfl (op_move (v := (Value.bool (decide (stuck_1.1 = 0)))) rfl ?_)
         refine Rg_case (fun hg168 => ?_) (fun hg168 => ?_)
         ·
          replace hm := bif_t hm hg168
          refine Rg_opg rfl rfl rfl (op_move (v := (Value.int .i64 stuck_1.2.1)) rfl ?_)
          refine Rg_opg rfl rfl rfl (op_eql rfl rfl ?_)
          refine Rg_opg rfl rfl rfl (op_pick_t (v := (Value.bool (decide (stuck_1.2.1 = 0)))) rfl rfl ?_)
          refine Rg_op rfl (op_pick_f (v := (Value.bool (decide (stuck_1.2.1 = 0)))) rfl rfl ?_)
          refine Rg_op rfl (op_assign (v := (Value.bool (decide (stuck_1.2.1 = 0)))) rfl ?_)
          refine Rg_nil ?_
          refine Wp_ret ?_
          have hz := step_all hs165
          refine ⟨_, (show Closes [] _ _ from rfl), [(Value.bool (decide (stuck_1.2.1 = 0)))], ⟨rfl, trivial⟩, hs165.ext, ?_⟩
          exact Vr.eq (a := vB) (x := (decide (stuck_1.2.1 = 0))) rfl (Option.some.inj hm)
         ·
          replace hm := bif_f hm hg168
          iterate 2 refine Rg_opx rfl (asB_ne rfl rfl) rfl ?_
          refine Rg_opg rfl rfl rfl (op_pick_f (v := (Value.bool false)) rfl rfl ?_)
          refine Rg_op rfl (op_pick_f (v := (Value.bool false)) rfl rfl ?_)
          refine Rg_op rfl (op_assign (v := (Value.bool false)) rfl ?_)
          refine Rg_nil ?_
          refine Wp_ret ?_
          have hz := step_all hs165
          refine ⟨_, (show Closes [] _ _ from rfl), [(Value.bool false)], ⟨rfl, trivial⟩, hs165.ext, ?_⟩
          exact Vr.eq (a := vB) (x := false) rfl (Option.some.inj hm)
    ·
     intro K75 hK75
     have ch169 := Step.refl (ks [(some b1, Obj.cells [(Value.slice a_a_volumes a.volumes.length c_a_volumes), (Value.slice a_a_sectors a.sectors.length c_a_sectors), (Value.slice a_a_configs a.configs.length c_a_configs), (Value.slice a_a_segments a.segments.length c_a_segments), (Value.slice a_a_routes a.routes.length c_a_routes), (Value.slice a_a_airports a.airports.length c_a_airports), (Value.slice a_a_classes a.classes.length c_a_classes), (Value.slice a_a_rules a.rules.length c_a_rules)].toArray 31)] O) w49
     refine Wp_region ?_
     refine Rg_op rfl (op_move (v := (Value.int .i64 reach_1.2)) rfl ?_)
     refine Rg_op rfl (op_neq rfl rfl ?_)
     refine Rg_op rfl (op_move (v := (Value.bool (decide (reach_1.2 ≠ 0)))) rfl ?_)
     refine Rg_case (fun hg170 => ?_) (fun hg170 => ?_)
     ·
      replace hm := bif_t hm hg170
      iterate 8 refine Rg_opx rfl (asB_ne rfl rfl) rfl ?_
      refine Rg_op rfl (op_pick_t (v := (Value.bool true)) rfl rfl ?_)
      refine Rg_nil ?_
      exact hK75 _ _ ⟨true, _, rfl, ⟨(by repeat (first | with_reducible exact Out.refl _ _ | refine Out.upd ?_ rfl | refine Out.updL ?_ rfl | refine Out.mix' ?_ rfl | exact Out.refl _ _)), rfl, rfl, trivial⟩, ch169, hs52, hm⟩
     ·
      replace hm := bif_f hm hg170
      refine Rg_opg rfl rfl rfl (op_move (v := (Value.bool stuck_1.2.2.1)) rfl ?_)
      refine Rg_opg rfl rfl rfl (op_move (v := (Value.slice a_y58 reach_1.1.length c_y58)) rfl ?_)
      refine Rg_opg rfl rfl rfl (op_len Try.underlying39 rfl ?_)
      refine Rg_opg rfl rfl rfl (op_fieldAddr ty31 rfl ty24 (by decide) rfl (rfl : _ = (⟨_, 2, none⟩ : Addr)) ?_)
      refine Rg_opg rfl rfl rfl (op_load (cs := [(Value.slice a_a_volumes a.volumes.length c_a_volumes), (Value.slice a_a_sectors a.sectors.length c_a_sectors), (Value.slice a_a_configs a.configs.length c_a_configs), (Value.slice a_a_segments a.segments.length c_a_segments), (Value.slice a_a_routes a.routes.length c_a_routes), (Value.slice a_a_airports a.airports.length c_a_airports), (Value.slice a_a_classes a.classes.length c_a_classes), (Value.slice a_a_rules a.rules.length c_a_rules)]) (i := 0) ty24 hs52 rfl rfl rfl ?_)
      refine Rg_opg rfl rfl rfl (op_len Try.underlying24 rfl ?_)
      refine Rg_opg rfl rfl rfl (op_lss rfl rfl ?_)
      refine Rg_opg rfl rfl rfl (op_neqb Try.underlying4 rfl rfl ?_)
      refine Rg_op rfl (op_pick_f (v := (Value.bool (!(stuck_1.2.2.1 == (decide ((reach_1.1.length : Int) < (a.configs.length : Int))))))) rfl rfl ?_)
      refine Rg_nil ?_
      exact hK75 _ _ ⟨(!(stuck_1.2.2.1 == (decide ((reach_1.1.length : Int) < (a.configs.length : Int))))), _, rfl, ⟨(by repeat (first | with_reducible exact Out.refl _ _ | refine Out.upd ?_ rfl | refine Out.updL ?_ rfl | refine Out.mix' ?_ rfl | exact Out.refl _ _)), rfl, rfl, trivial⟩, ch169, hs52, hm⟩

end Go.Fx



/- What the models of functions compute: loops over lists, checks, meetings. No program in sight. -/
set_option linter.unusedSimpArgs false
set_option linter.unusedVariables false
namespace Go.Fx
open Go Go.RowKit

section
variable {R α σ : Type}
@[simp] theorem jn_eq {κ : Type _} (k : κ) (f : κ → Option R) : jn k f = f k := rfl
theorem ck_eq {c : Prop} [Decidable c] {m : Option R} (h : c) : ck c m = m := if_pos h
@[simp] theorem ck_True {m : Option R} : ck True m = m := if_pos trivial
theorem wrapN {i : Nat} (h : i < 9223372036854775808) : IntKind.i64.wrap (i : Int) = (i : Int) := wrap_i64 (by omega) (by omega)
theorem wrapS {i : Nat} (h : i + 1 < 9223372036854775808) : IntKind.i64.wrap ((i : Int) + 1) = (i : Int) + 1 := wrap_i64 (by omega) (by omega)
/-- a loop that goes up an index over a list: L fuel index state -/
theorem up_list {L : Nat → Int → σ → Option R} (I : Nat → σ → Prop) (F : Nat → List α → σ → Option R) (l : List α) (hl : l.length < 9223372036854775807)
    (hE : ∀ n s, I l.length s → L (n + 1) (l.length : Nat) s = F l.length [] s)
    (hS : ∀ n (i : Nat) s x t, i < l.length → l[i]? = some x → IntKind.i64.wrap ((i : Int) + 1) = (i : Int) + 1 → I i s →
      (∀ s, I (i + 1) s → L n ((i : Int) + 1) s = F (i + 1) t s) → L (n + 1) (i : Int) s = F i (x :: t) s) :
    ∀ (fuel : Nat) s, l.length < fuel → I 0 s → L fuel 0 s = F 0 l s := by
  have main : ∀ (t : List α) (i fuel : Nat) s, l.drop i = t → i ≤ l.length → l.length - i < fuel → I i s → L fuel (i : Int) s = F i t s := by
    intro t
    induction t with
    | nil =>
      intro i fuel s hd hi hf hI
      have : i = l.length := by have := congrArg List.length hd; simp at this; omega
      subst this
      obtain ⟨n, rfl⟩ : ∃ n, fuel = n + 1 := ⟨fuel - 1, by omega⟩
      exact hE n s hI
    | cons x t ih =>
      intro i fuel s hd hi hf hI
      have hlt : i < l.length := by have := congrArg List.length hd; simp at this; omega
      obtain ⟨n, rfl⟩ : ∃ n, fuel = n + 1 := ⟨fuel - 1, by omega⟩
      have hx : l[i]? = some x := by rw [← List.head?_drop, hd]; rfl
      refine hS n i s x t hlt hx (wrapS (by omega)) hI fun s' hI' => (ih (i + 1) n s' ?_ (by omega) (by omega) hI')
      rw [← List.drop_drop, hd]; rfl
  intro fuel s hf hI
  exact main l 0 fuel s rfl (by omega) (by omega) hI

theorem getD_of {l : List α} {i : Nat} {x d : α} (h : l[i]? = some x) : l.getD i d = x := by simp [List.getD, h]

/-- a loop that goes up an index over a list, no state -/
theorem up_list0 {B : (Int → Option R) → Int → Option R} (F : List α → Option R) (l : List α) (hl : l.length < 9223372036854775807)
    (hE : ∀ sf, B sf (l.length : Nat) = F [])
    (hS : ∀ sf (i : Nat) x t, i < l.length → l[i]? = some x → IntKind.i64.wrap ((i : Int) + 1) = (i : Int) + 1 →
      sf ((i : Int) + 1) = F t → B sf (i : Int) = F (x :: t))
    {fuel : Nat} (hf : l.length < fuel) : loop1 B fuel 0 = F l := by
  refine up_list (L := fun n i (_ : Unit) => loop1 B n i) (fun _ _ => True) (fun _ t _ => F t) l hl ?_ ?_ fuel () hf trivial
  · intro n _ _; show loop1 B (n + 1) _ = _; rw [loop1_succ]; exact hE _
  · intro n i _ x t h1 h2 h3 _ ih; show loop1 B (n + 1) _ = _; rw [loop1_succ]; exact hS _ i x t h1 h2 h3 (ih () trivial)
/-- a state first, then the index -/
theorem up_listB {B : (σ → Int → Option R) → σ → Int → Option R} (I : Nat → σ → Prop) (F : Nat → List α → σ → Option R) (l : List α) (hl : l.length < 9223372036854775807)
    (hE : ∀ sf s, I l.length s → B sf s (l.length : Nat) = F l.length [] s)
    (hS : ∀ sf (i : Nat) s x t, i < l.length → l[i]? = some x → IntKind.i64.wrap ((i : Int) + 1) = (i : Int) + 1 → I i s →
      (∀ s, I (i + 1) s → sf s ((i : Int) + 1) = F (i + 1) t s) → B sf s (i : Int) = F i (x :: t) s)
    {fuel : Nat} {s : σ} (hf : l.length < fuel) (hI : I 0 s) : loop2 B fuel s 0 = F 0 l s := by
  refine up_list (L := fun n i s => loop2 B n s i) I F l hl ?_ ?_ fuel s hf hI
  · intro n s h; show loop2 B (n + 1) _ _ = _; rw [loop2_succ]; exact hE _ _ h
  · intro n i s x t h1 h2 h3 h4 ih; show loop2 B (n + 1) _ _ = _; rw [loop2_succ]; exact hS _ i s x t h1 h2 h3 h4 ih

/-- the same, where the answer needs the index -/
theorem up_listI {B : (Int → Option R) → Int → Option R} (F : Nat → List α → Option R) (l : List α) (hl : l.length < 9223372036854775807)
    (hE : ∀ sf, B sf (l.length : Nat) = F l.length [])
    (hS : ∀ sf (i : Nat) x t, i < l.length → l[i]? = some x → IntKind.i64.wrap ((i : Int) + 1) = (i : Int) + 1 →
      sf ((i : Int) + 1) = F (i + 1) t → B sf (i : Int) = F i (x :: t))
    {fuel : Nat} (hf : l.length < fuel) : loop1 B fuel 0 = F 0 l := by
  refine up_list (L := fun n i (_ : Unit) => loop1 B n i) (fun _ _ => True) (fun i t _ => F i t) l hl ?_ ?_ fuel () hf trivial
  · intro n _ _; show loop1 B (n + 1) _ = _; rw [loop1_succ]; exact hE _
  · intro n i _ x t h1 h2 h3 _ ih; show loop1 B (n + 1) _ = _; rw [loop1_succ]; exact hS _ i x t h1 h2 h3 (ih () trivial)
end
end Go.Fx



/- Chapter 10, no program in sight: a search in breadth, and what it finds. -/
set_option linter.unusedSimpArgs false
set_option linter.unusedVariables false
namespace Go.Fx
open Go Go.RowKit
/-- a look at neighbour i of at -/
def bstep (adj : Nat → Nat → Bool) (c : Nat) (s : List Int × List Nat) (i : Nat) : List Int × List Nat :=
  bif adj c i && decide (s.1.getD i default < 0) then (s.1.set i (s.1.getD c default + 1), s.2 ++ [i]) else s
def bfs (adj : Nat → Nat → Bool) (n : Nat) : Nat → List Int → List Nat → List Int
  | 0, d, _ => d
  | _ + 1, d, [] => d
  | f + 1, d, c :: q => bfs adj n f ((List.range n).foldl (bstep adj c) (d, q)).1 ((List.range n).foldl (bstep adj c) (d, q)).2
def vc (n : Nat) (d : List Int) : Nat := (List.range n).countP fun i => decide (0 ≤ d.getD i default)
/-- what is known while c's neighbours below m have been looked at -/
structure BJ (adj : Nat → Nat → Bool) (n to c m : Nat) (d : List Int) (q : List Nat) : Prop where
  len : d.length = n
  to0 : d.getD to default = 0
  tn : to < n
  ge : ∀ i < n, -1 ≤ d.getD i default
  bound : ∀ i < n, d.getD i default < vc n d
  qmem : ∀ x ∈ q, x < n ∧ 0 ≤ d.getD x default
  pred : ∀ i < n, 0 ≤ d.getD i default → i ≠ to → ∃ j < n, adj j i = true ∧ 0 ≤ d.getD j default ∧ d.getD i default = d.getD j default + 1
  cn : c < n
  cv : 0 ≤ d.getD c default
  cq : c ∉ q
  nd : q.Nodup
  near : ∀ i < n, 0 ≤ d.getD i default → i ∉ q → i ≠ c → ∀ j < n, adj i j = true → 0 ≤ d.getD j default ∧ d.getD j default ≤ d.getD i default + 1
  mid : ∀ j < m, adj c j = true → 0 ≤ d.getD j default
  low : ∀ x ∈ q, d.getD c default ≤ d.getD x default
  srt : q.Pairwise fun x y => d.getD x default ≤ d.getD y default
  top : ∀ x < n, d.getD x default ≤ d.getD c default + 1
structure BI (adj : Nat → Nat → Bool) (n to : Nat) (d : List Int) (q : List Nat) : Prop where
  len : d.length = n
  to0 : d.getD to default = 0
  tn : to < n
  ge : ∀ i < n, -1 ≤ d.getD i default
  bound : ∀ i < n, d.getD i default < vc n d
  qmem : ∀ x ∈ q, x < n ∧ 0 ≤ d.getD x default
  pred : ∀ i < n, 0 ≤ d.getD i default → i ≠ to → ∃ j < n, adj j i = true ∧ 0 ≤ d.getD j default ∧ d.getD i default = d.getD j default + 1
  nd : q.Nodup
  near : ∀ i < n, 0 ≤ d.getD i default → i ∉ q → ∀ j < n, adj i j = true → 0 ≤ d.getD j default ∧ d.getD j default ≤ d.getD i default + 1
  srt : q.Pairwise fun x y => d.getD x default ≤ d.getD y default
  top : ∀ h t, q = h :: t → ∀ x < n, d.getD x default ≤ d.getD h default + 1
variable {adj : Nat → Nat → Bool} {n to c m : Nat} {d : List Int} {q : List Nat}
theorem getD_setI {d : List Int} {i j : Nat} {v : Int} (h : i < d.length) : (d.set i v).getD j default = if i = j then v else d.getD j default := by
  by_cases e : i = j
  · subst e; simp [h]
  · simp [e, List.getElem?_set]
theorem vc_le (n : Nat) (d : List Int) : vc n d ≤ n := by
  unfold vc; have := List.countP_le_length (p := fun i => decide (0 ≤ d.getD i default)) (l := List.range n); simpa using this
theorem countP_flip {l : List Nat} {p r : Nat → Bool} {i : Nat} (hn : l.Nodup) (hi : i ∈ l) (hp : p i = false) (hr : r i = true) (h : ∀ j, j ≠ i → r j = p j) : l.countP r = l.countP p + 1 := by
  obtain ⟨l1, l2, rfl⟩ := List.append_of_mem hi
  have h1 : i ∉ l1 := fun hm => by
    rw [List.nodup_append] at hn
    exact hn.2.2 i hm i (by simp) rfl
  have h2 : i ∉ l2 := fun hm => by
    rw [List.nodup_append] at hn
    exact (List.nodup_cons.1 hn.2.1).1 hm
  have e1 : l1.countP r = l1.countP p := List.countP_congr fun j hj => by rw [h j fun e => h1 (e ▸ hj)]
  have e2 : l2.countP r = l2.countP p := List.countP_congr fun j hj => by rw [h j fun e => h2 (e ▸ hj)]
  rw [List.countP_append, List.countP_append, List.countP_cons, List.countP_cons, e1, e2, hp, hr]
  simp; omega
theorem vc_set {i : Nat} {v : Int} (hl : d.length = n) (hi : i < n) (hu : d.getD i default < 0) (hv : 0 ≤ v) : vc n (d.set i v) = vc n d + 1 := by
  unfold vc
  refine countP_flip (i := i) List.nodup_range (List.mem_range.2 hi) (by simpa using hu) ?_ fun j hj => ?_
  · simp only [getD_setI (show i < d.length by omega), if_true]; simpa using hv
  · simp only [getD_setI (show i < d.length by omega), if_neg (Ne.symm hj)]
theorem BJ.step (h : BJ adj n to c m d q) (hm : m < n) : BJ adj n to c (m + 1) (bstep adj c (d, q) m).1 (bstep adj c (d, q) m).2 := by
  unfold bstep
  cases hc : (adj c m && decide (d.getD m default < 0))
  · rw [cond_false]
    refine { h with mid := fun j hj ha => ?_ }
    by_cases e : j = m
    · subst e
      rw [ha, Bool.true_and] at hc
      simpa using hc
    · exact h.mid j (by omega) ha
  · rw [cond_true]
    simp only [Bool.and_eq_true, decide_eq_true_eq] at hc
    obtain ⟨ha, hu⟩ := hc
    have hml : m < d.length := by rw [h.len]; exact hm
    have hv : (0 : Int) ≤ d.getD c default + 1 := by have := h.cv; omega
    have g : ∀ j, (d.set m (d.getD c default + 1)).getD j default = if m = j then d.getD c default + 1 else d.getD j default := fun j => getD_setI hml
    have hold : ∀ j, 0 ≤ d.getD j default → (d.set m (d.getD c default + 1)).getD j default = d.getD j default := fun j hj => by
      rw [g, if_neg]; intro e; subst e; omega
    have hmt : m ≠ to := fun e => by subst e; have := h.to0; omega
    have hmc : m ≠ c := fun e => by subst e; have := h.cv; omega
    have hmq : m ∉ q := fun e => by have := (h.qmem m e).2; omega
    have hcc := hold c h.cv
    dsimp only
    refine ⟨by simpa using h.len, ?_, h.tn, ?_, ?_, ?_, ?_, h.cn, ?_, ?_, ?_, ?_, ?_, ?_, ?_, ?_⟩
    · rw [hold to (by have := h.to0; omega)]; exact h.to0
    · intro i hi; rw [g]; split
      · omega
      · exact h.ge i hi
    · intro i hi
      rw [vc_set h.len hm hu hv, g]
      have := h.bound i hi
      have := h.bound c h.cn
      split <;> omega
    · intro x hx
      rcases List.mem_append.1 hx with hx | hx
      · have := h.qmem x hx; rw [hold x this.2]; exact this
      · simp at hx; subst hx; rw [g, if_pos rfl]; exact ⟨hm, hv⟩
    · intro i hi h0 hne
      by_cases e : m = i
      · subst e; exact ⟨c, h.cn, ha, by rw [hcc]; exact h.cv, by rw [hcc, g, if_pos rfl]⟩
      · rw [g, if_neg e] at h0 ⊢
        obtain ⟨j, hj, h1, h2, h3⟩ := h.pred i hi h0 hne
        exact ⟨j, hj, h1, by rw [hold j h2]; exact h2, by rw [hold j h2]; exact h3⟩
    · rw [hcc]; exact h.cv
    · intro hx
      rcases List.mem_append.1 hx with hx | hx
      · exact h.cq hx
      · simp at hx; exact hmc hx.symm
    · rw [List.nodup_append]
      exact ⟨h.nd, by simp, fun a hax b hb => by simp at hb; rw [hb]; exact fun e => hmq (e ▸ hax)⟩
    · intro i hi h0 hq hic j hj haj
      have hiq : i ∉ q := fun hx => hq (List.mem_append_left _ hx)
      have hmi : m ≠ i := fun e => hq (List.mem_append_right _ (by simp [e]))
      rw [g, if_neg hmi] at h0
      have gi : (d.set m (d.getD c default + 1)).getD i default = d.getD i default := by rw [g, if_neg hmi]
      rw [gi]
      obtain ⟨h1, h2⟩ := h.near i hi h0 hiq hic j hj haj
      rw [hold j h1]; exact ⟨h1, h2⟩
    · intro j hj haj
      by_cases e : m = j
      · rw [g, if_pos e]; exact hv
      · have := h.mid j (by omega) haj
        rw [hold j this]; exact this
    · intro x hx
      rw [hcc]
      rcases List.mem_append.1 hx with hx | hx
      · rw [hold x (h.qmem x hx).2]; exact h.low x hx
      · simp at hx; subst hx; rw [g, if_pos rfl]; omega
    · rw [List.pairwise_append]
      refine ⟨?_, by simp, fun a hax b hb => ?_⟩
      · refine h.srt.imp_of_mem fun {a b} hax hbx hab => ?_
        rw [hold a (h.qmem a hax).2, hold b (h.qmem b hbx).2]; exact hab
      · simp at hb; rw [hb]
        rw [hold a (h.qmem a hax).2, g, if_pos rfl]
        exact h.top a (h.qmem a hax).1
    · intro x hx
      rw [hcc, g]; split
      · omega
      · exact h.top x hx
theorem BJ.start (h : BI adj n to d (c :: q)) : BJ adj n to c 0 d q := by
  have hc := h.qmem c (by simp)
  have hnd := List.nodup_cons.1 h.nd
  have hs := List.pairwise_cons.1 h.srt
  exact ⟨h.len, h.to0, h.tn, h.ge, h.bound, fun x hx => h.qmem x (by simp [hx]), h.pred, hc.1, hc.2, hnd.1, hnd.2, fun i hi h0 hq hic j hj ha => h.near i hi h0 (by simp [hq, hic]) j hj ha, fun j hj => by omega, hs.1, hs.2, h.top c q rfl⟩
theorem BJ.fin (h : BJ adj n to c n d q) : BI adj n to d q := by
  refine ⟨h.len, h.to0, h.tn, h.ge, h.bound, h.qmem, h.pred, h.nd, fun i hi h0 hq j hj ha => ?_, h.srt, fun x t e y hy => ?_⟩
  · by_cases e : i = c
    · subst e; exact ⟨h.mid j hj ha, h.top j hj⟩
    · exact h.near i hi h0 hq e j hj ha
  · subst e
    have := h.top y hy; have := h.low x (by simp); omega
theorem BJ.fold (h : BJ adj n to c m d q) : ∀ k, m + k = n → BI adj n to ((List.range' m k).foldl (bstep adj c) (d, q)).1 ((List.range' m k).foldl (bstep adj c) (d, q)).2 := by
  intro k
  induction k generalizing m d q with
  | zero => intro e; have : m = n := by omega
            subst this; exact h.fin
  | succ k ih =>
    intro e
    rw [List.range'_succ, List.foldl_cons]
    exact ih (h.step (by omega)) (by omega)
theorem BI.round (h : BI adj n to d (c :: q)) : BI adj n to ((List.range n).foldl (bstep adj c) (d, q)).1 ((List.range n).foldl (bstep adj c) (d, q)).2 := by
  rw [List.range_eq_range']; exact (BJ.start h).fold n (by omega)
/-- how much is left to do -/
theorem fold_meas (c : Nat) : ∀ (k m : Nat) (d : List Int) (q : List Nat), d.length = n → m + k = n → (∀ i < n, 0 ≤ d.getD c default) → 2 * (n - vc n ((List.range' m k).foldl (bstep adj c) (d, q)).1) + ((List.range' m k).foldl (bstep adj c) (d, q)).2.length ≤ 2 * (n - vc n d) + q.length ∧ ((List.range' m k).foldl (bstep adj c) (d, q)).1.length = n := by
  intro k
  induction k with
  | zero => intro m d q hl _ _; exact ⟨Nat.le_refl _, hl⟩
  | succ k ih =>
    intro m d q hl e hc
    rw [List.range'_succ, List.foldl_cons]
    unfold bstep
    cases hb : (adj c m && decide (d.getD m default < 0))
    · rw [cond_false]; exact ih (m + 1) d q hl (by omega) hc
    · rw [cond_true]
      simp only [Bool.and_eq_true, decide_eq_true_eq] at hb
      have hml : m < d.length := by omega
      have hc0 : 0 ≤ d.getD c default := hc m (by omega)
      have hv : (0 : Int) ≤ d.getD c default + 1 := by omega
      have := ih (m + 1) (d.set m (d.getD c default + 1)) (q ++ [m]) (by simpa using hl) (by omega) (fun i hi => by rw [getD_setI hml]; split <;> omega)
      rw [vc_set hl (by omega) hb.2 hv] at this
      have h1 := vc_le n (d.set m (d.getD c default + 1))
      rw [vc_set hl (by omega) hb.2 hv] at h1
      refine ⟨?_, this.2⟩
      have := this.1
      rw [List.length_append] at this
      simp only [List.length_cons, List.length_nil] at this
      exact Nat.le_trans this (by omega)
/-- the queue runs dry -/
theorem bfs_spec : ∀ (f : Nat) (d : List Int) (q : List Nat), BI adj n to d q → 2 * (n - vc n d) + q.length < f → BI adj n to (bfs adj n f d q) [] := by
  intro f
  induction f with
  | zero => intro d q _ hf; omega
  | succ f ih =>
    intro d q h hf
    cases q with
    | nil => exact h
    | cons c q =>
      unfold bfs
      have hm := fold_meas (adj := adj) (n := n) c n 0 d q h.len (by omega) fun i _ => (h.qmem c (by simp)).2
      rw [← List.range_eq_range'] at hm
      refine ih _ _ h.round ?_
      have := hm.1
      simp only [List.length_cons] at hf
      omega
def start (n to : Nat) : List Int := (List.replicate n (-1)).set to 0
theorem start_getD {i : Nat} (h : to < n) (hi : i < n) : (start n to).getD i default = if to = i then 0 else -1 := by
  unfold start
  rw [getD_setI (by simpa using h)]
  split
  · rfl
  · simp [hi]
theorem start_inv (adj : Nat → Nat → Bool) (h : to < n) : BI adj n to (start n to) [to] := by
  have g : ∀ i < n, (start n to).getD i default = if to = i then 0 else -1 := fun i hi => start_getD h hi
  have hv : 0 < vc n (start n to) := by
    unfold vc
    rw [List.countP_pos_iff]
    exact ⟨to, List.mem_range.2 h, by rw [g to h, if_pos rfl]; rfl⟩
  refine ⟨by simp [start], by rw [g to h, if_pos rfl], h, fun i hi => ?_, fun i hi => ?_, fun x hx => ?_, fun i hi h0 hne => ?_, by simp, fun i hi h0 hq => ?_, by simp, fun x t e y hy => ?_⟩
  · rw [g i hi]; split <;> omega
  · rw [g i hi]; split <;> omega
  · simp at hx; subst hx; exact ⟨h, by rw [g x h, if_pos rfl]; exact Int.le_refl _⟩
  · rw [g i hi, if_neg (Ne.symm hne)] at h0; omega
  · have : to ≠ i := fun e => hq (by simp [e])
    rw [g i hi, if_neg this] at h0; omega
  · simp at e; rw [← e.1, g to h, if_pos rfl, g y hy]; split <;> omega
/-- distances -/
structure Dist (adj : Nat → Nat → Bool) (n to : Nat) (d : List Int) : Prop where
  len : d.length = n
  to0 : d.getD to default = 0
  tn : to < n
  ge : ∀ i < n, -1 ≤ d.getD i default
  bound : ∀ i < n, d.getD i default < n
  pred : ∀ i < n, 0 ≤ d.getD i default → i ≠ to → ∃ j < n, adj j i = true ∧ 0 ≤ d.getD j default ∧ d.getD i default = d.getD j default + 1
  near : ∀ i < n, 0 ≤ d.getD i default → ∀ j < n, adj i j = true → 0 ≤ d.getD j default ∧ d.getD j default ≤ d.getD i default + 1
theorem bfs_dist {f : Nat} (h : to < n) (hf : 2 * n + 1 < f) : Dist adj n to (bfs adj n f (start n to) [to]) := by
  have := bfs_spec f _ _ (start_inv adj h) (by simp; omega)
  exact ⟨this.len, this.to0, this.tn, this.ge, fun i hi => by have h1 := this.bound i hi; have h2 := vc_le n (bfs adj n f (start n to) [to]); omega, this.pred, fun i hi h0 j hj ha => this.near i hi h0 (by simp) j hj ha⟩
/-- a way from i to j -/
inductive Conn (adj : Nat → Nat → Bool) (n : Nat) : Nat → Nat → Prop
  | refl {i : Nat} : i < n → Conn adj n i i
  | step {i j k : Nat} : Conn adj n i j → k < n → adj j k = true → Conn adj n i k
theorem Conn.lt {i j : Nat} (h : Conn adj n i j) : i < n ∧ j < n := by
  induction h with
  | refl h => exact ⟨h, h⟩
  | step _ hk _ ih => exact ⟨ih.1, hk⟩
theorem Conn.trans {i j k : Nat} (h : Conn adj n i j) (h2 : Conn adj n j k) : Conn adj n i k := by
  induction h2 with
  | refl _ => exact h
  | step _ hk ha ih => exact ih.step hk ha
theorem Conn.symm (hs : ∀ i < n, ∀ j < n, adj i j = adj j i) {i j : Nat} (h : Conn adj n i j) : Conn adj n j i := by
  induction h with
  | refl h => exact .refl h
  | step h1 hk ha ih =>
    have hj := h1.lt.2
    exact Conn.trans (.step (.refl hk) hj (by rw [← hs _ hj _ hk]; exact ha)) ih
theorem Dist.conn (h : Dist adj n to d) {i : Nat} (hi : i < n) : 0 ≤ d.getD i default ↔ Conn adj n to i := by
  constructor
  · have : ∀ (k : Nat) (i : Nat), i < n → 0 ≤ d.getD i default → d.getD i default = k → Conn adj n to i := by
      intro k
      induction k with
      | zero =>
        intro i hi h0 e
        by_cases ht : i = to
        · subst ht; exact .refl hi
        · obtain ⟨j, hj, _, h1, h2⟩ := h.pred i hi h0 ht; omega
      | succ k ih =>
        intro i hi h0 e
        by_cases ht : i = to
        · subst ht; exact .refl hi
        · obtain ⟨j, hj, ha, h1, h2⟩ := h.pred i hi h0 ht
          exact .step (ih j hj h1 (by omega)) hi ha
    intro h0
    exact this (d.getD i default).toNat i hi h0 (by omega)
  · intro hc
    induction hc with
    | refl _ => rw [h.to0]; exact Int.le_refl _
    | step h1 hk ha ih => exact (h.near _ h1.lt.2 (ih h1.lt.2) _ hk ha).1
end Go.Fx



/- Chapter 10, no program in sight: divisions, splits and merges. -/
set_option linter.unusedSimpArgs false
set_option linter.unusedVariables false
namespace Go.Fx
open Go Go.RowKit
/-- a division of nv volumes into sets -/
structure Part (nv : Nat) (K : List Nat) : Prop where
  nd : K.Nodup
  ne : ∀ m ∈ K, ∃ v < nv, m.testBit v = true
  hi : ∀ m ∈ K, ∀ v, m.testBit v = true → v < nv
  cov : ∀ v < nv, ∃ m ∈ K, m.testBit v = true
  dis : ∀ m ∈ K, ∀ m' ∈ K, ∀ v, m.testBit v = true → m'.testBit v = true → m = m'
def miss (K L : List Nat) : Nat := K.countP fun m => decide (m ∉ L)
def stepK (K L : List Nat) : Prop := (miss K L = 0 ∧ miss L K = 0) ∨ (miss K L = 1 ∧ miss L K = 2) ∨ (miss K L = 2 ∧ miss L K = 1)
def tog (K : List Nat) (v w : Nat) : Prop := ∃ m ∈ K, m.testBit v = true ∧ m.testBit w = true
theorem stepK_symm {K L : List Nat} : stepK K L ↔ stepK L K := by unfold stepK; omega
variable {nv : Nat} {K L : List Nat}
end Go.Fx



/- Chapter 10: sectors and divisions, as the functions compute them. -/
set_option linter.unusedSimpArgs false
set_option linter.unusedVariables false
namespace Go.Fx
open Go Go.RowKit
theorem ipos {l n : Nat} (h : n < l) : ((n : Int) < (l : Int)) := by omega
/-! few -/
def fewB (a : XAirspace) : Bool := (a.sectors.all fun s => !decide (10 < (s.volumes.length : Int))) && ((a.configs.all fun c => !decide (10 < (c.sectors.length : Int))) && (decide ((a.volumes.length : Int) ≤ 6) && (decide ((a.sectors.length : Int) ≤ 12) && decide ((a.configs.length : Int) ≤ 7))))
theorem m12_eq (a : XAirspace) (ha : smXAirspace a) : m12_overflightref10_Few a = some (fewB a) := by
  have hs : a.sectors.length < 9223372036854775807 := by have := ha.2.1.1; omega
  have hc : a.configs.length < 9223372036854775807 := by have := ha.2.2.1.1; omega
  have h2 : ∀ fuel, a.configs.length < fuel → loop1 (m12_overflightref10_Few_B1 a) fuel 0 = some ((a.configs.all fun c => !decide (10 < (c.sectors.length : Int))) && (decide ((a.volumes.length : Int) ≤ 6) && (decide ((a.sectors.length : Int) ≤ 12) && decide ((a.configs.length : Int) ≤ 7)))) := by
    intro fuel hf
    refine up_list0 (fun t => some ((t.all fun c => !decide (10 < (c.sectors.length : Int))) && (decide ((a.volumes.length : Int) ≤ 6) && (decide ((a.sectors.length : Int) ≤ 12) && decide ((a.configs.length : Int) ≤ 7))))) a.configs hc ?_ ?_ hf
    · intro sf; unfold m12_overflightref10_Few_B1
      simp only [Int.lt_irrefl, decide_false, cond_false, List.all_nil, Bool.true_and]
      cases decide ((a.volumes.length : Int) ≤ 6) <;> cases decide ((a.sectors.length : Int) ≤ 12) <;> rfl
    · intro sf i x t h1 h2 h3 ih
      obtain ⟨_, rfl⟩ := List.getElem?_eq_some_iff.1 h2
      unfold m12_overflightref10_Few_B1
      have g1 : a.configs.getD (i : Int).toNat default = a.configs[i] := by simp [h1]
      simp only [decide_eq_true (ipos h1), cond_true, g1, h3, List.all_cons]
      rw [ck_eq (by omega), ih]
      cases decide (10 < (a.configs[i].sectors.length : Int)) <;> simp
  unfold m12_overflightref10_Few fewB
  refine up_list0 (fun t => some ((t.all fun s => !decide (10 < (s.volumes.length : Int))) && ((a.configs.all fun c => !decide (10 < (c.sectors.length : Int))) && (decide ((a.volumes.length : Int) ≤ 6) && (decide ((a.sectors.length : Int) ≤ 12) && decide ((a.configs.length : Int) ≤ 7)))))) a.sectors hs ?_ ?_ (show a.sectors.length < ((a.sectors.length : Int) - 0).toNat + 1 by omega)
  · intro sf; unfold m12_overflightref10_Few_B0
    simp only [Int.lt_irrefl, decide_false, cond_false, List.all_nil, Bool.true_and]
    exact h2 _ (by omega)
  · intro sf i x t h1 h2 h3 ih
    obtain ⟨_, rfl⟩ := List.getElem?_eq_some_iff.1 h2
    unfold m12_overflightref10_Few_B0
    have g1 : a.sectors.getD (i : Int).toNat default = a.sectors[i] := by simp [h1]
    simp only [decide_eq_true (ipos h1), cond_true, g1, h3, List.all_cons]
    rw [ck_eq (by omega), ih]
    cases decide (10 < (a.sectors[i].volumes.length : Int)) <;> simp
structure Few10 (a : XAirspace) : Prop where
  nv : a.volumes.length ≤ 6
  ns : a.sectors.length ≤ 12
  nc : a.configs.length ≤ 7
  sl : ∀ s ∈ a.sectors, s.volumes.length ≤ 10
  cl : ∀ c ∈ a.configs, c.sectors.length ≤ 10
theorem Few10.of {a : XAirspace} (h : fewB a = true) : Few10 a := by
  unfold fewB at h
  simp only [Bool.and_eq_true, List.all_eq_true, Bool.not_eq_true', decide_eq_false_iff_not, decide_eq_true_eq] at h
  obtain ⟨h1, h2, h3, h4, h5⟩ := h
  exact ⟨by omega, by omega, by omega, fun s hs => by have := h1 s hs; omega, fun c hc => by have := h2 c hc; omega⟩
/-! sectors -/
def secGo (nv : Nat) : Nat → List Int → Option Nat
  | x, [] => some x
  | x, v :: t => bif decide (v < 0) || (decide ((nv : Int) ≤ v) || x.testBit v.toNat) then none else secGo nv (x ||| 2 ^ v.toNat) t
def secV (nv : Nat) (l : List Int) : Option Nat := (secGo nv 0 l).bind fun x => if x = 0 then none else some x
def setsGo (nv : Nat) : List XSector → Option (List Nat)
  | [] => some []
  | s :: t => (secV nv s.volumes).bind fun x => (setsGo nv t).map (x :: ·)
def res {α : Type} : Option (List α) → List α × Bool
  | none => ([], false)
  | some L => (L, true)
theorem and_pow_zero {x k : Nat} : x &&& 2 ^ k = 0 ↔ x.testBit k = false := by
  constructor
  · intro h
    have : (x &&& 2 ^ k).testBit k = false := by rw [h]; exact Nat.zero_testBit k
    rw [Nat.testBit_and, Nat.testBit_two_pow_self, Bool.and_true] at this; exact this
  · intro h
    refine Nat.eq_of_testBit_eq fun i => ?_
    rw [Nat.testBit_and, Nat.zero_testBit]
    by_cases e : k = i
    · subst e; rw [h]; rfl
    · rw [Nat.testBit_two_pow_of_ne e, Bool.and_false]
theorem testBit_and_pow {x k : Nat} : decide (((x &&& 2 ^ k : Nat) : Int) ≠ 0) = x.testBit k := by
  cases h : x.testBit k
  · rw [and_pow_zero.2 h]; rfl
  · have : x &&& 2 ^ k ≠ 0 := fun e => by rw [and_pow_zero.1 e] at h; cases h
    rw [decide_eq_true_eq]; omega
theorem wrapBit {k : Nat} (h : k < 64) : IntKind.wrap .u64 (1 * 2 ^ min k (IntKind.bits .u64)) = ((2 ^ k : Nat) : Int) := by
  have hm : min k (IntKind.bits .u64) = k := Nat.min_eq_left (show k ≤ 64 by omega)
  rw [hm, Int.one_mul]
  have h1 : 2 ^ k < 2 ^ 64 := Nat.pow_lt_pow_right (by decide) h
  have e : ((2 : Int) ^ k) = ((2 ^ k : Nat) : Int) := by simp
  rw [e]
  generalize 2 ^ k = m at h1
  exact IntWalk.u64_in _ ⟨by omega, by omega⟩
theorem or_lt {x k n : Nat} (hx : x < 2 ^ n) (hk : k < n) : x ||| 2 ^ k < 2 ^ n := Nat.or_lt_two_pow hx (Nat.pow_lt_pow_right (by decide) hk)
theorem pow64 {n : Nat} (h : n ≤ 6) : 2 ^ n ≤ 64 := by
  have : 2 ^ n ≤ 2 ^ 6 := Nat.pow_le_pow_right (by decide) h
  omega
theorem m41_inner (a : XAirspace) (hf : Few10 a) (j : Nat) (hj : j < a.sectors.length) (hw : IntKind.i64.wrap ((j : Int) + 1) = (j : Int) + 1) (sf : List Int → Int → Option (List Int × Bool)) (l : List Int) (hl : l.length ≤ 12) :
    loop3 (m41_configs_sets_B1 a j sf) (((((a.sectors.getD (j : Int).toNat default).volumes).length : Int) - 0).toNat + 1) l 0 0 = match secV a.volumes.length (a.sectors.getD j default).volumes with
      | none => some (([] : List Int), false)
      | some x => sf (l ++ [(x : Int)]) ((j : Int) + 1) := by
  have hnv := hf.nv
  have hmem : a.sectors.getD j default ∈ a.sectors := by rw [show a.sectors.getD j default = a.sectors[j] by simp [hj]]; exact List.getElem_mem _
  have hsl := hf.sl _ hmem
  have e0 : a.sectors.getD (j : Int).toNat default = a.sectors.getD j default := rfl
  rw [e0]
  generalize hS : (a.sectors.getD j default).volumes = S at hsl ⊢
  refine (up_list (σ := List Int × Int) (L := fun n i s => loop3 (m41_configs_sets_B1 a j sf) n s.1 s.2 i) (fun _ s => ∃ x : Nat, s.2 = (x : Int) ∧ x < 2 ^ a.volumes.length ∧ s.1.length ≤ 12)
    (fun i t s => match (secGo a.volumes.length s.2.toNat t).bind fun x => if x = 0 then none else some x with
      | none => some (([] : List Int), false)
      | some x => sf (s.1 ++ [(x : Int)]) ((j : Int) + 1)) S (by omega) ?_ ?_ _ (l, 0) (by omega) ⟨0, rfl, Nat.two_pow_pos _, hl⟩).trans ?_
  · rintro n ⟨l, y⟩ ⟨x, rfl, hx, hl⟩
    simp only at hl ⊢
    rw [loop3_succ]
    unfold m41_configs_sets_B1
    simp only [e0, hS, Int.lt_irrefl, decide_false, cond_false, secGo, Int.toNat_natCast, Option.bind_some, hw]
    by_cases h0 : x = 0
    · subst h0; rfl
    · rw [decide_eq_false (show ¬ (x : Int) = 0 by omega), cond_false, if_neg h0, ck_eq (by simp; omega)]
  · rintro n i ⟨l, y⟩ v t h1 h2 h3 ⟨x, rfl, hx, hl⟩ ih
    obtain ⟨_, rfl⟩ := List.getElem?_eq_some_iff.1 h2
    simp only at hl ⊢
    rw [loop3_succ]
    generalize loop3 (m41_configs_sets_B1 a (j : Int) sf) n = sf2 at ih ⊢
    unfold m41_configs_sets_B1
    have g1 : S.getD i default = S[i] := by simp [h1]
    have hx64 := pow64 hnv
    simp only [e0, hS, decide_eq_true (ipos h1), cond_true, g1, h3, jn_eq, secGo, Int.toNat_natCast]
    rw [ck_eq (by omega)]
    by_cases k1 : S[i] < 0
    · rw [decide_eq_true k1]; rfl
    by_cases k2 : (a.volumes.length : Int) ≤ S[i]
    · rw [decide_eq_false k1, decide_eq_true k2]; rfl
    have hk : S[i].toNat < 64 := by omega
    rw [decide_eq_false k1, cond_false, decide_eq_false k2, cond_false, ck_eq (by omega), wrapBit hk]
    have hp : 2 ^ S[i].toNat < 2 ^ 64 := Nat.pow_lt_pow_right (by decide) hk
    rw [bits_and_u64_nat x _ (by omega) (by omega), bits_or_u64_nat x _ (by omega) (by omega), testBit_and_pow]
    simp only [Bool.false_or]
    cases x.testBit S[i].toNat
    · rw [cond_false, cond_false, ck_eq (by omega), ih (l, _) ⟨_, rfl, or_lt hx (by omega), hl⟩]
      rfl
    · rfl
  · unfold secV; rfl
theorem m41_eq (a : XAirspace) (hf : Few10 a) : m41_configs_sets a = some (res ((setsGo a.volumes.length a.sectors).map fun L => L.map fun (x : Nat) => (x : Int))) := by
  have hns := hf.ns
  unfold m41_configs_sets
  refine (up_listB (B := m41_configs_sets_B0 a) (σ := List Int) (fun i s => s.length = i) (fun i t s => some (res ((setsGo a.volumes.length t).map fun L => s ++ L.map fun (x : Nat) => (x : Int)))) a.sectors (by omega) ?_ ?_ (by omega) rfl).trans ?_
  · intro sf s h; unfold m41_configs_sets_B0
    simp [setsGo, res]
  · intro sf i s x t h1 h2 h3 hs ih
    have hx := getD_of (d := default) h2
    unfold m41_configs_sets_B0
    simp only [decide_eq_true (ipos h1), cond_true]
    rw [ck_eq (by omega), m41_inner a hf i h1 h3 sf s (by omega), hx]
    simp only [setsGo]
    cases secV a.volumes.length x.volumes with
    | none => rfl
    | some y =>
      simp only [Option.bind_some]
      rw [ih _ (by simp; omega)]
      cases setsGo a.volumes.length t <;> simp [res]
  · cases setsGo a.volumes.length a.sectors <;> simp [res]
/-! divisions -/
def cfgGo (secs : List Nat) : Nat → List (Int × Bool) → List Int → Option (Nat × List (Int × Bool))
  | x, d, [] => some (x, d)
  | x, d, s :: t => bif decide (s < 0) || (decide ((secs.length : Int) ≤ s) || decide (x &&& secs.getD s.toNat 0 ≠ 0)) then none else cfgGo secs (x ||| secs.getD s.toNat 0) (mput d (secs.getD s.toNat 0 : Nat) true) t
def cfgV (nv : Nat) (secs : List Nat) (c : List Int) : Option (List (Int × Bool)) := (cfgGo secs 0 [] c).bind fun p => if p.1 = 2 ^ nv - 1 then some p.2 else none
def divGo (nv : Nat) (secs : List Nat) : List XConfig → Option (List (List (Int × Bool)))
  | [] => some []
  | c :: t => (cfgV nv secs c.sectors).bind fun d => (divGo nv secs t).map (d :: ·)
def shapeB (a : XAirspace) : Bool := decide (1 ≤ a.volumes.length) && decide (1 ≤ a.configs.length)
def divV (a : XAirspace) : Option (List (List (Int × Bool))) := bif shapeB a then (setsGo a.volumes.length a.sectors).bind fun secs => divGo a.volumes.length secs a.configs else none
theorem all_eq {n : Nat} (h1 : 1 ≤ n) (h : n ≤ 6) : (18446744073709551615 / 2 ^ min (IntKind.wrap .i64 (64 - (n : Int))).toNat (IntKind.bits .u64) : Int) = ((2 ^ n - 1 : Nat) : Int) := by
  have : n = 1 ∨ n = 2 ∨ n = 3 ∨ n = 4 ∨ n = 5 ∨ n = 6 := by omega
  rcases this with rfl | rfl | rfl | rfl | rfl | rfl <;> decide +kernel
theorem getD_mapI (secs : List Nat) (i : Nat) : (secs.map fun (x : Nat) => (x : Int)).getD i default = ((secs.getD i 0 : Nat) : Int) := by
  simp only [List.getD_eq_getElem?_getD, List.getElem?_map]
  cases secs[i]? <;> rfl
theorem getD_lt {secs : List Nat} {b i : Nat} (h : ∀ x ∈ secs, x < b) (hi : i < secs.length) : secs.getD i 0 < b := by
  rw [show secs.getD i 0 = secs[i] by simp [hi]]; exact h _ (List.getElem_mem _)
theorem m31_inner (a : XAirspace) (hf : Few10 a) (hv1 : 1 ≤ a.volumes.length) (secs : List Nat) (hb : ∀ x ∈ secs, x < 64) (j : Nat) (hj : j < a.configs.length) (hw : IntKind.i64.wrap ((j : Int) + 1) = (j : Int) + 1) (sf : List (List (Int × Bool)) → Int → Option (List (List (Int × Bool)) × Bool)) (l : List (List (Int × Bool))) (hl : l.length ≤ 12) :
    loop4 (m31_configs_divisions_B1 a (secs.map (fun (x : Nat) => (x : Int)), true) j sf) (((((a.configs.getD (j : Int).toNat default).sectors).length : Int) - 0).toNat + 1) l 0 0 ([] : List (Int × Bool)) = match cfgV a.volumes.length secs (a.configs.getD j default).sectors with
      | none => some (([] : List (List (Int × Bool))), false)
      | some d => sf (l ++ [d]) ((j : Int) + 1) := by
  have hnv := hf.nv
  have hmem : a.configs.getD j default ∈ a.configs := by rw [show a.configs.getD j default = a.configs[j] by simp [hj]]; exact List.getElem_mem _
  have hcl := hf.cl _ hmem
  have e0 : a.configs.getD (j : Int).toNat default = a.configs.getD j default := rfl
  rw [e0]
  generalize hS : (a.configs.getD j default).sectors = S at hcl ⊢
  refine (up_list (σ := List (List (Int × Bool)) × Int × List (Int × Bool)) (L := fun n i s => loop4 (m31_configs_divisions_B1 a (secs.map (fun (x : Nat) => (x : Int)), true) j sf) n s.1 s.2.1 i s.2.2) (fun _ s => ∃ x : Nat, s.2.1 = (x : Int) ∧ x < 64 ∧ s.1.length ≤ 12)
    (fun i t s => match (cfgGo secs s.2.1.toNat s.2.2 t).bind fun p => if p.1 = 2 ^ a.volumes.length - 1 then some p.2 else none with
      | none => some (([] : List (List (Int × Bool))), false)
      | some d => sf (s.1 ++ [d]) ((j : Int) + 1)) S (by omega) ?_ ?_ _ (l, 0, []) (by omega) ⟨0, rfl, by decide, hl⟩).trans ?_
  · rintro n ⟨l, y, d⟩ ⟨x, rfl, hx, hl⟩
    simp only at hl ⊢
    rw [loop4_succ]
    unfold m31_configs_divisions_B1
    simp only [e0, hS, Int.lt_irrefl, decide_false, cond_false, cfgGo, Int.toNat_natCast, Option.bind_some, hw, all_eq hv1 hnv]
    by_cases h0 : x = 2 ^ a.volumes.length - 1
    · rw [decide_eq_false (show ¬ ((x : Int) ≠ ((2 ^ a.volumes.length - 1 : Nat) : Int)) by omega), cond_false, if_pos h0, ck_eq (by simp; omega)]
    · rw [decide_eq_true (show ((x : Int) ≠ ((2 ^ a.volumes.length - 1 : Nat) : Int)) by omega), cond_true, if_neg h0]
  · rintro n i ⟨l, y, d⟩ v t h1 h2 h3 ⟨x, rfl, hx, hl⟩ ih
    obtain ⟨_, rfl⟩ := List.getElem?_eq_some_iff.1 h2
    simp only at hl ⊢
    rw [loop4_succ]
    generalize loop4 (m31_configs_divisions_B1 a (secs.map (fun (x : Nat) => (x : Int)), true) (j : Int) sf) n = sf2 at ih ⊢
    unfold m31_configs_divisions_B1
    have g1 : S.getD i default = S[i] := by simp [h1]
    simp only [e0, hS, decide_eq_true (ipos h1), cond_true, g1, h3, jn_eq, cfgGo, Int.toNat_natCast, List.length_map, getD_mapI]
    rw [ck_eq (by omega)]
    by_cases k1 : S[i] < 0
    · rw [decide_eq_true k1]; rfl
    by_cases k2 : (secs.length : Int) ≤ S[i]
    · rw [decide_eq_false k1, decide_eq_true k2]; rfl
    rw [decide_eq_false k1, cond_false, decide_eq_false k2, cond_false, ck_eq (by omega)]
    have hm : secs.getD S[i].toNat 0 < 64 := getD_lt hb (by omega)
    rw [bits_and_u64_nat x _ (by omega) (by omega), bits_or_u64_nat x _ (by omega) (by omega)]
    simp only [Bool.false_or]
    have hor : x ||| secs.getD S[i].toNat 0 < 64 := Nat.or_lt_two_pow (n := 6) hx hm
    have ed : decide (((x &&& secs.getD S[i].toNat 0 : Nat) : Int) ≠ 0) = decide (x &&& secs.getD S[i].toNat 0 ≠ 0) := by
      by_cases h0 : x &&& secs.getD S[i].toNat 0 = 0
      · simp [h0]
      · rw [decide_eq_true h0]; simp only [ne_eq, decide_eq_true_eq]; omega
    rw [ed]
    cases decide (x &&& secs.getD S[i].toNat 0 ≠ 0)
    · rw [cond_false, cond_false, ck_eq (by omega), ck_eq (by omega), ih (l, _, _) ⟨_, rfl, hor, hl⟩]
      rfl
    · rfl
  · unfold cfgV; rfl
theorem secGo_lt {nv : Nat} : ∀ {t : List Int} {x y : Nat}, x < 2 ^ nv → secGo nv x t = some y → y < 2 ^ nv := by
  intro t
  induction t with
  | nil => intro x y hx h; cases h; exact hx
  | cons v t ih =>
    intro x y hx h
    unfold secGo at h
    cases hc : (decide (v < 0) || (decide ((nv : Int) ≤ v) || x.testBit v.toNat))
    · rw [hc, cond_false] at h
      simp only [Bool.or_eq_false_iff, decide_eq_false_iff_not] at hc
      exact ih (or_lt hx (by omega)) h
    · rw [hc] at h; cases h
theorem setsGo_lt {nv : Nat} : ∀ {l : List XSector} {L : List Nat}, setsGo nv l = some L → (∀ x ∈ L, x < 2 ^ nv) ∧ L.length = l.length := by
  intro l
  induction l with
  | nil => intro L h; cases h; simp
  | cons s t ih =>
    intro L h
    unfold setsGo at h
    cases h1 : secV nv s.volumes with
    | none => rw [h1] at h; cases h
    | some x =>
      rw [h1, Option.bind_some] at h
      cases h2 : setsGo nv t with
      | none => rw [h2] at h; cases h
      | some M =>
        rw [h2, Option.map_some] at h
        cases h
        obtain ⟨i1, i2⟩ := ih h2
        unfold secV at h1
        cases h3 : secGo nv 0 s.volumes with
        | none => rw [h3] at h1; cases h1
        | some y =>
          rw [h3, Option.bind_some] at h1
          have : y = x := by split at h1 <;> simp_all
          subst this
          refine ⟨fun z hz => ?_, by simp [i2]⟩
          rcases List.mem_cons.1 hz with rfl | hz
          · exact secGo_lt (Nat.two_pow_pos _) h3
          · exact i1 z hz
theorem m31_eq (a : XAirspace) (hf : Few10 a) : m31_configs_divisions a = some (res (divV a)) := by
  have hnv := hf.nv; have hns := hf.ns; have hnc := hf.nc
  unfold m31_configs_divisions divV
  simp only [jn_eq, m41_eq a hf, Option.bind_some]
  by_cases c1 : (a.volumes.length : Int) < 1
  · have : shapeB a = false := by unfold shapeB; rw [decide_eq_false (by omega)]; rfl
    rw [decide_eq_true c1, this]; rfl
  by_cases c2 : (a.configs.length : Int) < 1
  · have : shapeB a = false := by unfold shapeB; rw [decide_eq_false (show ¬ 1 ≤ a.configs.length by omega), Bool.and_false]
    rw [decide_eq_false c1, decide_eq_false (show ¬ 64 < (a.volumes.length : Int) by omega), decide_eq_false (show ¬ 64 < (a.sectors.length : Int) by omega), decide_eq_true c2, this]; rfl
  have : shapeB a = true := by unfold shapeB; rw [decide_eq_true (show 1 ≤ a.configs.length by omega), decide_eq_true (by omega)]; rfl
  rw [decide_eq_false c1, decide_eq_false (show ¬ 64 < (a.volumes.length : Int) by omega), decide_eq_false (show ¬ 64 < (a.sectors.length : Int) by omega), decide_eq_false c2, decide_eq_false (show ¬ 32 < (a.configs.length : Int) by omega), this]
  simp only [cond_false, cond_true]
  cases hs : setsGo a.volumes.length a.sectors with
  | none => rfl
  | some secs =>
    obtain ⟨hlt, hlen⟩ := setsGo_lt hs
    have h64 := pow64 hnv
    simp only [Option.map_some, res, Bool.not_true, cond_false, Option.bind_some]
    rw [ck_eq (by rw [wrap_i64 (by omega) (by omega)]; omega)]
    refine (up_listB (B := m31_configs_divisions_B0 a (secs.map (fun (x : Nat) => (x : Int)), true)) (σ := List (List (Int × Bool))) (fun i s => s.length = i) (fun i t s => some (res ((divGo a.volumes.length secs t).map fun L => s ++ L))) a.configs (by omega) ?_ ?_ (by omega) rfl).trans ?_
    · intro sf s h; unfold m31_configs_divisions_B0
      simp [divGo, res]
    · intro sf i s x t h1 h2 h3 hs ih
      have hx := getD_of (d := default) h2
      unfold m31_configs_divisions_B0
      simp only [decide_eq_true (ipos h1), cond_true]
      rw [ck_eq (by omega), m31_inner a hf (by omega) secs (fun x hx => by have := hlt x hx; omega) i h1 h3 sf s (by omega), hx]
      simp only [divGo]
      cases cfgV a.volumes.length secs x.sectors with
      | none => rfl
      | some y =>
        simp only [Option.bind_some]
        rw [ih _ (by simp; omega)]
        cases divGo a.volumes.length secs t <;> simp [res]
    · cases divGo a.volumes.length secs a.configs <;> simp [res]
theorem m15_eq (a : XAirspace) (hf : Few10 a) : m15_configs_Check a = some (bif (divV a).isSome then 0 else 100) := by
  unfold m15_configs_Check
  rw [m31_eq a hf, Option.bind_some]
  cases divV a <;> rfl
end Go.Fx



set_option linter.unusedVariables false
set_option linter.unusedSimpArgs false
set_option maxRecDepth 100000
set_option maxHeartbeats 0
namespace Go.Fx
open Go Go.RowKit Go.Proofs
end Go.Fx



set_option linter.unusedVariables false
set_option linter.unusedSimpArgs false
set_option maxRecDepth 100000
set_option maxHeartbeats 0
namespace Go.Fx
open Go Go.RowKit Go.Proofs
end Go.Fx



set_option linter.unusedVariables false
set_option linter.unusedSimpArgs false
set_option maxRecDepth 100000
set_option maxHeartbeats 0
namespace Go.Fx
open Go Go.RowKit Go.Proofs
end Go.Fx



set_option linter.unusedVariables false
set_option linter.unusedSimpArgs false
set_option maxRecDepth 100000
set_option maxHeartbeats 0
namespace Go.Fx
open Go Go.RowKit Go.Proofs
end Go.Fx



set_option linter.unusedVariables false
set_option linter.unusedSimpArgs false
set_option maxRecDepth 100000
set_option maxHeartbeats 0
namespace Go.Fx
open Go Go.RowKit Go.Proofs
end Go.Fx



/- Chapter 10: what valid airspaces are, with the program's words and with the document's. -/
set_option linter.unusedSimpArgs false
set_option linter.unusedVariables false
namespace Go.Fx
open Go Go.RowKit
/-! the document's Check -/
def idxOk (below : Int) (l : List Int) : Prop := (∀ v ∈ l, 0 ≤ v ∧ v < below) ∧ l.Nodup
instance (below : Int) (l : List Int) : Decidable (idxOk below l) := by unfold idxOk; infer_instance
def hasV (a : XAirspace) (v : Nat) (s : Int) : Bool := decide ((v : Int) ∈ (a.sectors.getD s.toNat default).volumes)
def divOk (a : XAirspace) (c : List Int) : Prop := idxOk a.sectors.length c ∧ ∀ v < a.volumes.length, c.countP (hasV a v) = 1
instance (a : XAirspace) (c : List Int) : Decidable (divOk a c) := by unfold divOk; infer_instance
structure OKa (a : XAirspace) : Prop where
  nv1 : 1 ≤ a.volumes.length
  nc1 : 1 ≤ a.configs.length
  sec : ∀ s ∈ a.sectors, s.volumes ≠ [] ∧ idxOk a.volumes.length s.volumes
  cfg : ∀ c ∈ a.configs, divOk a c.sectors
noncomputable def okB (a : XAirspace) : Bool := @decide (OKa a) (Classical.propDecidable _)
theorem okB_true {a : XAirspace} : okB a = true ↔ OKa a := by unfold okB; exact @decide_eq_true_iff _ (Classical.propDecidable _)
theorem okB_false {a : XAirspace} (h : ¬ OKa a) : okB a = false := by
  cases e : okB a
  · rfl
  · exact absurd (okB_true.1 e) h
/-! the sector of a volume -/
theorem m39_eq (s : List Int) (v : Int) (hl : s.length < 9223372036854775807) : ∃ n : Int, m39_slices_Indexint_int_ s v = some n ∧ (0 ≤ n ↔ v ∈ s) ∧ (n < 0 → n = -1) ∧ (0 ≤ n → s.getD n.toNat default = v ∧ n.toNat < s.length ∧ ∀ k < n.toNat, s.getD k default ≠ v) := by
  let F : Nat → List Int → Int := fun i t => if v ∈ t then ((i + t.idxOf v : Nat) : Int) else -1
  have hF : m39_slices_Indexint_int_ s v = some (F 0 s) := by
    unfold m39_slices_Indexint_int_
    refine up_listI (fun i t => some (F i t)) s hl ?_ ?_ (show s.length < ((s.length : Int) - 0).toNat + 1 by omega)
    · intro sf; unfold m39_slices_Indexint_int__B0; simp [F]
    · intro sf i x t h1 h2 h3 ih
      obtain ⟨_, rfl⟩ := List.getElem?_eq_some_iff.1 h2
      unfold m39_slices_Indexint_int__B0
      have g1 : s.getD (i : Int).toNat default = s[i] := by simp [h1]
      simp only [decide_eq_true (ipos h1), cond_true, g1, h3, ih]
      rw [ck_eq (by omega)]
      by_cases h : v = s[i]
      · rw [decide_eq_true h, cond_true]; simp [F, ← h]
      · rw [decide_eq_false h, cond_false]
        simp only [F, List.mem_cons, h, false_or]
        by_cases hm : v ∈ t
        · simp only [hm, if_true]; rw [List.idxOf_cons, show (s[i] == v) = false by simpa using Ne.symm h]; simp; omega
        · simp only [hm, if_false]
  refine ⟨F 0 s, hF, ?_, ?_, ?_⟩
  · simp only [F]; by_cases hm : v ∈ s
    · simp only [hm, if_true, iff_true]; omega
    · simp only [hm, if_false]; exact ⟨fun h => by omega, fun h => h.elim⟩
  · simp only [F]; split
    · intro h; omega
    · intro _; rfl
  · simp only [F]; by_cases hm : v ∈ s
    · simp only [hm, if_true, Nat.zero_add, Int.toNat_natCast]
      intro _
      have hlt := List.idxOf_lt_length_of_mem hm
      refine ⟨by rw [show s.getD (s.idxOf v) default = s[s.idxOf v] by simp [hlt]]; exact List.getElem_idxOf hlt, hlt, fun k hk e => ?_⟩
      have hk' : k < s.length := by omega
      rw [show s.getD k default = s[k] by simp [hk']] at e
      have := List.not_of_lt_findIdx (xs := s) (p := fun x => x == v) (i := k) hk
      simp [e] at this
    · simp only [hm, if_false]; omega
end Go.Fx



set_option linter.unusedVariables false
set_option linter.unusedSimpArgs false
set_option maxRecDepth 100000
set_option maxHeartbeats 0
namespace Go.Fx
open Go Go.RowKit Go.Proofs
end Go.Fx



set_option linter.unusedVariables false
set_option linter.unusedSimpArgs false
set_option maxRecDepth 100000
set_option maxHeartbeats 0
namespace Go.Fx
open Go Go.RowKit Go.Proofs
end Go.Fx



set_option linter.unusedVariables false
set_option linter.unusedSimpArgs false
set_option maxRecDepth 100000
set_option maxHeartbeats 0
namespace Go.Fx
open Go Go.RowKit Go.Proofs
end Go.Fx


