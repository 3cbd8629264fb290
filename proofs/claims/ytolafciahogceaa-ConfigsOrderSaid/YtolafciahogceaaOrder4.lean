/- Part 4 of the proof: the order in which volumes and sectors are listed changes no step, nothing that is reached and no sector of a volume, for every airspace. -/
import Derived.Test.YtolafciahogceaaOrder3
set_option linter.unusedVariables false
set_option linter.unusedSimpArgs false
set_option maxRecDepth 100000
set_option maxHeartbeats 0
namespace Go.Fx
open Go Go.RowKit Go.Proofs
def m11_overflightlaw10_sane : Option Bool :=
 (m28_overflightlaw10_example).bind fun example_1 =>
 (m17_configs_Reach example_1 0).bind fun reach_1 =>
 (m22_configs_Path example_1 0 1).bind fun path_1 =>
 (m22_configs_Path example_1 1 1).bind fun path_2 =>
 (m24_configs_Stuck example_1).bind fun stuck_1 =>
 ck ((0 : Int) ≤ (2 : Int) ∧ (2 : Int) ≤ (example_1.configs.length : Int)) <|
 (m24_configs_Stuck (⟨example_1.volumes, example_1.sectors, ((example_1.configs.drop 0).take (2 - 0)), example_1.segments, example_1.routes, example_1.airports, example_1.classes, example_1.rules⟩ : XAirspace)).bind fun stuck_2 =>
 (m17_configs_Reach (⟨example_1.volumes, example_1.sectors, ((example_1.configs.drop 0).take (2 - 0)), example_1.segments, example_1.routes, example_1.airports, example_1.classes, example_1.rules⟩ : XAirspace) 1).bind fun reach_2 =>
 (m13_configs_Sector example_1 2 0).bind fun sector_1 =>
 (m13_configs_Sector (⟨([] : List XVolume), ([] : List XSector), ([] : List XConfig), ([] : List XSegment), ([] : List XRoute), ([] : List XAirport), ([] : List XClass), ([] : List XRule)⟩ : XAirspace) 0 0).bind fun sector_2 =>
 jn (fun (good_1 : Bool) =>
  jn (fun (v_1 : Bool) =>
   some v_1)
  (fun k169 =>
   bif good_1 then
    bif (decide (stuck_2.2.2.2 = 0)) then
     bif stuck_2.2.2.1 then
      bif (decide (stuck_2.1 = 0)) then
       bif (decide (stuck_2.2.1 = 1)) then
        bif (decide (reach_2.2 = 0)) then
         (m21_overflightref10_SameInts reach_2.1 [1]).bind fun sameints_1 =>
         bif sameints_1 then
          bif sector_1.2 then
           bif (decide (sector_1.1 = 3)) then
            bif (!sector_2.2) then
             (m15_configs_Check example_1).bind fun check_1 =>
             bif (decide (check_1 = 0)) then
              (m15_configs_Check (⟨([] : List XVolume), ([] : List XSector), ([] : List XConfig), ([] : List XSegment), ([] : List XRoute), ([] : List XAirport), ([] : List XClass), ([] : List XRule)⟩ : XAirspace)).bind fun check_2 =>
              bif (decide (check_2 = 100)) then
               (m19_configs_Step example_1 0 2).bind fun step_1 =>
               bif step_1 then
                (m19_configs_Step example_1 0 1).bind fun step_2 =>
                bif (!step_2) then
                 (m19_configs_Step example_1 0 0).bind fun step_3 =>
                 k169 (!step_3)
                else
                 k169 false
               else
                k169 false
              else
               k169 false
             else
              k169 false
            else
             k169 false
           else
            k169 false
          else
           k169 false
         else
          k169 false
        else
         k169 false
       else
        k169 false
      else
       k169 false
     else
      k169 false
    else
     k169 false
   else
    k169 false))
 (fun k159 =>
  bif (decide (reach_1.2 = 0)) then
   (m21_overflightref10_SameInts reach_1.1 [0, 1, 2]).bind fun sameints_2 =>
   bif sameints_2 then
    bif (decide (path_1.2.2 = 0)) then
     bif path_1.2.1 then
      (m21_overflightref10_SameInts path_1.1 [0, 2, 1]).bind fun sameints_3 =>
      bif sameints_3 then
       bif (decide (path_2.2.2 = 0)) then
        bif path_2.2.1 then
         (m21_overflightref10_SameInts path_2.1 [1]).bind fun sameints_4 =>
         bif sameints_4 then
          bif (decide (stuck_1.2.2.2 = 0)) then
           bif (!stuck_1.2.2.1) then
            bif (decide (stuck_1.1 = 0)) then
             k159 (decide (stuck_1.2.1 = 0))
            else
             k159 false
           else
            k159 false
          else
           k159 false
         else
          k159 false
        else
         k159 false
       else
        k159 false
      else
       k159 false
     else
      k159 false
    else
     k159 false
   else
    k159 false
  else
   k159 false)

theorem c11_overflightlaw10_sane {w : World} {O : List Nat} (hO : ∀ k ∈ O, k < w.heap.size) {x : Bool} (hm : m11_overflightlaw10_sane = some x) :
  Ok Try.prog 11 [] w O vB x := by
 unfold m11_overflightlaw10_sane at hm
 refine Fn_of_Wp (n := 185) (xs := [.tmp 0]) Try.func11 rfl Try.ntmps11 Try.results11 rfl ?_
 have hs := St.start hO
 refine Wp_seq ?_
 refine Wp_region ?_
 refine Rg_op rfl (op_assign (v := (Value.bool false)) rfl ?_)
 refine Rg_nil ?_
 refine Wp_seq ?_
 refine Wp_region ?_
 replace hm := bd hm; obtain ⟨example_1, hv1, hm⟩ := hm
 refine Rg_op rfl (op_call Try.call28 (c28_overflightlaw10_example  hs.ltw  hv1) rfl ?_)
 rintro v2 w3 ⟨hx4, h5⟩
 have hs6 := hs.call hx4
 have p7 := Step.ext (O := ks [] O) hx4
 clear hx4
 clear p7
 obtain ⟨_, rfl, ⟨_, _, rfl, ⟨a_y8_volumes, c_y8_volumes, rfl, f_y8_volumes⟩, ⟨_, _, rfl, ⟨a_y8_sectors, c_y8_sectors, rfl, f_y8_sectors⟩, ⟨_, _, rfl, ⟨a_y8_configs, c_y8_configs, rfl, f_y8_configs⟩, ⟨_, _, rfl, ⟨a_y8_segments, c_y8_segments, rfl, f_y8_segments⟩, ⟨_, _, rfl, ⟨a_y8_routes, c_y8_routes, rfl, f_y8_routes⟩, ⟨_, _, rfl, ⟨a_y8_airports, c_y8_airports, rfl, f_y8_airports⟩, ⟨_, _, rfl, ⟨a_y8_classes, c_y8_classes, rfl, f_y8_classes⟩, ⟨a_y8_rules, c_y8_rules, rfl, f_y8_rules⟩⟩⟩⟩⟩⟩⟩⟩⟩ := h5
 refine Rg_op rfl (op_alloc ty31 hs6 ?_)
 intro b9 w10 _ p11 hs12
 replace f_y8_volumes := f_y8_volumes.step p11; replace f_y8_sectors := f_y8_sectors.step p11; replace f_y8_configs := f_y8_configs.step p11; replace f_y8_segments := f_y8_segments.step p11; replace f_y8_routes := f_y8_routes.step p11; replace f_y8_airports := f_y8_airports.step p11; replace f_y8_classes := f_y8_classes.step p11; replace f_y8_rules := f_y8_rules.step p11; clear p11 hs6
 refine Rg_op_ (op_store (cs := [(Value.slice none 0 0), (Value.slice none 0 0), (Value.slice none 0 0), (Value.slice none 0 0), (Value.slice none 0 0), (Value.slice none 0 0), (Value.slice none 0 0), (Value.slice none 0 0)]) (vs := [(Value.slice a_y8_volumes example_1.volumes.length c_y8_volumes), (Value.slice a_y8_sectors example_1.sectors.length c_y8_sectors), (Value.slice a_y8_configs example_1.configs.length c_y8_configs), (Value.slice a_y8_segments example_1.segments.length c_y8_segments), (Value.slice a_y8_routes example_1.routes.length c_y8_routes), (Value.slice a_y8_airports example_1.airports.length c_y8_airports), (Value.slice a_y8_classes example_1.classes.length c_y8_classes), (Value.slice a_y8_rules example_1.rules.length c_y8_rules)]) (cs' := [(Value.slice a_y8_volumes example_1.volumes.length c_y8_volumes), (Value.slice a_y8_sectors example_1.sectors.length c_y8_sectors), (Value.slice a_y8_configs example_1.configs.length c_y8_configs), (Value.slice a_y8_segments example_1.segments.length c_y8_segments), (Value.slice a_y8_routes example_1.routes.length c_y8_routes), (Value.slice a_y8_airports example_1.airports.length c_y8_airports), (Value.slice a_y8_classes example_1.classes.length c_y8_classes), (Value.slice a_y8_rules example_1.rules.length c_y8_rules)]) (bs' := [(some b9, Obj.cells [(Value.slice a_y8_volumes example_1.volumes.length c_y8_volumes), (Value.slice a_y8_sectors example_1.sectors.length c_y8_sectors), (Value.slice a_y8_configs example_1.configs.length c_y8_configs), (Value.slice a_y8_segments example_1.segments.length c_y8_segments), (Value.slice a_y8_routes example_1.routes.length c_y8_routes), (Value.slice a_y8_airports example_1.airports.length c_y8_airports), (Value.slice a_y8_classes example_1.classes.length c_y8_classes), (Value.slice a_y8_rules example_1.rules.length c_y8_rules)].toArray 31)]) (i := 0) ty31 hs12 rfl rfl rfl rfl rfl (le_lit rfl) rfl rfl rfl ?_)
 intro w14 p15 hs16
 replace f_y8_volumes := f_y8_volumes.step p15; replace f_y8_sectors := f_y8_sectors.step p15; replace f_y8_configs := f_y8_configs.step p15; replace f_y8_segments := f_y8_segments.step p15; replace f_y8_routes := f_y8_routes.step p15; replace f_y8_airports := f_y8_airports.step p15; replace f_y8_classes := f_y8_classes.step p15; replace f_y8_rules := f_y8_rules.step p15; clear p15 hs12
 refine Rg_nil ?_
 refine Wp_seq ?_
 refine Wp_region ?_
 refine Rg_op rfl (op_loadA (cs := [(Value.slice a_y8_volumes example_1.volumes.length c_y8_volumes), (Value.slice a_y8_sectors example_1.sectors.length c_y8_sectors), (Value.slice a_y8_configs example_1.configs.length c_y8_configs), (Value.slice a_y8_segments example_1.segments.length c_y8_segments), (Value.slice a_y8_routes example_1.routes.length c_y8_routes), (Value.slice a_y8_airports example_1.airports.length c_y8_airports), (Value.slice a_y8_classes example_1.classes.length c_y8_classes), (Value.slice a_y8_rules example_1.rules.length c_y8_rules)]) (vs := [(Value.slice a_y8_volumes example_1.volumes.length c_y8_volumes), (Value.slice a_y8_sectors example_1.sectors.length c_y8_sectors), (Value.slice a_y8_configs example_1.configs.length c_y8_configs), (Value.slice a_y8_segments example_1.segments.length c_y8_segments), (Value.slice a_y8_routes example_1.routes.length c_y8_routes), (Value.slice a_y8_airports example_1.airports.length c_y8_airports), (Value.slice a_y8_classes example_1.classes.length c_y8_classes), (Value.slice a_y8_rules example_1.rules.length c_y8_rules)]) (i := 0) ty31 hs16 rfl rfl rfl rfl ?_)
 replace hm := bd hm; obtain ⟨reach_1, hv17, hm⟩ := hm
 refine Rg_op rfl (op_call Try.call17 (c17_configs_Reach (a := example_1) (from_ := 0) hs16.ltw f_y8_volumes f_y8_sectors f_y8_configs f_y8_segments f_y8_routes f_y8_airports f_y8_classes f_y8_rules (show InK .i64 0 from by decide) hv17) rfl ?_)
 rintro v18 w19 ⟨hx20, h21⟩
 have hs22 := hs16.call hx20
 have p23 := Step.ext (O := ks [(some b9, Obj.cells [(Value.slice a_y8_volumes example_1.volumes.length c_y8_volumes), (Value.slice a_y8_sectors example_1.sectors.length c_y8_sectors), (Value.slice a_y8_configs example_1.configs.length c_y8_configs), (Value.slice a_y8_segments example_1.segments.length c_y8_segments), (Value.slice a_y8_routes example_1.routes.length c_y8_routes), (Value.slice a_y8_airports example_1.airports.length c_y8_airports), (Value.slice a_y8_classes example_1.classes.length c_y8_classes), (Value.slice a_y8_rules example_1.rules.length c_y8_rules)].toArray 31)] O) hx20
 clear hx20
 replace f_y8_volumes := f_y8_volumes.step p23; replace f_y8_sectors := f_y8_sectors.step p23; replace f_y8_configs := f_y8_configs.step p23; replace f_y8_segments := f_y8_segments.step p23; replace f_y8_routes := f_y8_routes.step p23; replace f_y8_airports := f_y8_airports.step p23; replace f_y8_classes := f_y8_classes.step p23; replace f_y8_rules := f_y8_rules.step p23; clear p23 hs16
 obtain ⟨v24, v25, rfl, h26, h27⟩ := h21
 obtain ⟨a_y28, c_y28, rfl, f_y28⟩ := un_sl h26
 obtain ⟨rfl, r_y29⟩ := h27
 refine Rg_op rfl (op_move (v := (Value.tuple [(Value.slice a_y28 reach_1.1.length c_y28), (Value.int .i64 reach_1.2)].toArray)) rfl ?_)
 refine Rg_op rfl (op_extract (v := (Value.slice a_y28 reach_1.1.length c_y28)) rfl rfl ?_)
 refine Rg_op rfl (op_extract (v := (Value.int .i64 reach_1.2)) rfl rfl ?_)
 refine Rg_op rfl (op_assign (v := (Value.slice a_y28 reach_1.1.length c_y28)) rfl ?_)
 refine Rg_op rfl (op_assign (v := (Value.int .i64 reach_1.2)) rfl ?_)
 refine Rg_nil ?_
 refine Wp_seq ?_
 refine Wp_region ?_
 refine Rg_op rfl (op_loadA (cs := [(Value.slice a_y8_volumes example_1.volumes.length c_y8_volumes), (Value.slice a_y8_sectors example_1.sectors.length c_y8_sectors), (Value.slice a_y8_configs example_1.configs.length c_y8_configs), (Value.slice a_y8_segments example_1.segments.length c_y8_segments), (Value.slice a_y8_routes example_1.routes.length c_y8_routes), (Value.slice a_y8_airports example_1.airports.length c_y8_airports), (Value.slice a_y8_classes example_1.classes.length c_y8_classes), (Value.slice a_y8_rules example_1.rules.length c_y8_rules)]) (vs := [(Value.slice a_y8_volumes example_1.volumes.length c_y8_volumes), (Value.slice a_y8_sectors example_1.sectors.length c_y8_sectors), (Value.slice a_y8_configs example_1.configs.length c_y8_configs), (Value.slice a_y8_segments example_1.segments.length c_y8_segments), (Value.slice a_y8_routes example_1.routes.length c_y8_routes), (Value.slice a_y8_airports example_1.airports.length c_y8_airports), (Value.slice a_y8_classes example_1.classes.length c_y8_classes), (Value.slice a_y8_rules example_1.rules.length c_y8_rules)]) (i := 0) ty31 hs22 rfl rfl rfl rfl ?_)
 replace hm := bd hm; obtain ⟨path_1, hv30, hm⟩ := hm
 refine Rg_op rfl (op_call Try.call22 (c22_configs_Path (a := example_1) (from_ := 0) (to := 1) hs22.ltw f_y8_volumes f_y8_sectors f_y8_configs f_y8_segments f_y8_routes f_y8_airports f_y8_classes f_y8_rules (show InK .i64 0 from by decide) (show InK .i64 1 from by decide) hv30) rfl ?_)
 rintro v31 w32 ⟨hx33, h34⟩
 have hs35 := hs22.call hx33
 have p36 := Step.ext (O := ks [(some b9, Obj.cells [(Value.slice a_y8_volumes example_1.volumes.length c_y8_volumes), (Value.slice a_y8_sectors example_1.sectors.length c_y8_sectors), (Value.slice a_y8_configs example_1.configs.length c_y8_configs), (Value.slice a_y8_segments example_1.segments.length c_y8_segments), (Value.slice a_y8_routes example_1.routes.length c_y8_routes), (Value.slice a_y8_airports example_1.airports.length c_y8_airports), (Value.slice a_y8_classes example_1.classes.length c_y8_classes), (Value.slice a_y8_rules example_1.rules.length c_y8_rules)].toArray 31)] O) hx33
 clear hx33
 replace f_y8_volumes := f_y8_volumes.step p36; replace f_y8_sectors := f_y8_sectors.step p36; replace f_y8_configs := f_y8_configs.step p36; replace f_y8_segments := f_y8_segments.step p36; replace f_y8_routes := f_y8_routes.step p36; replace f_y8_airports := f_y8_airports.step p36; replace f_y8_classes := f_y8_classes.step p36; replace f_y8_rules := f_y8_rules.step p36; replace f_y28 := f_y28.step p36; clear p36 hs22
 obtain ⟨v37, v38, v39, rfl, h40, h41, h42⟩ := h34
 obtain ⟨a_y43, c_y43, rfl, f_y43⟩ := un_sl h40
 obtain rfl := h41
 obtain ⟨rfl, r_y45⟩ := h42
 refine Rg_op rfl (op_move (v := (Value.tuple [(Value.slice a_y43 path_1.1.length c_y43), (Value.bool path_1.2.1), (Value.int .i64 path_1.2.2)].toArray)) rfl ?_)
 refine Rg_op rfl (op_extract (v := (Value.slice a_y43 path_1.1.length c_y43)) rfl rfl ?_)
 refine Rg_op rfl (op_extract (v := (Value.bool path_1.2.1)) rfl rfl ?_)
 refine Rg_op rfl (op_extract (v := (Value.int .i64 path_1.2.2)) rfl rfl ?_)
 refine Rg_op rfl (op_assign (v := (Value.slice a_y43 path_1.1.length c_y43)) rfl ?_)
 refine Rg_op rfl (op_assign (v := (Value.bool path_1.2.1)) rfl ?_)
 refine Rg_op rfl (op_assign (v := (Value.int .i64 path_1.2.2)) rfl ?_)
 refine Rg_nil ?_
 refine Wp_seq ?_
 refine Wp_region ?_
 refine Rg_op rfl (op_loadA (cs := [(Value.slice a_y8_volumes example_1.volumes.length c_y8_volumes), (Value.slice a_y8_sectors example_1.sectors.length c_y8_sectors), (Value.slice a_y8_configs example_1.configs.length c_y8_configs), (Value.slice a_y8_segments example_1.segments.length c_y8_segments), (Value.slice a_y8_routes example_1.routes.length c_y8_routes), (Value.slice a_y8_airports example_1.airports.length c_y8_airports), (Value.slice a_y8_classes example_1.classes.length c_y8_classes), (Value.slice a_y8_rules example_1.rules.length c_y8_rules)]) (vs := [(Value.slice a_y8_volumes example_1.volumes.length c_y8_volumes), (Value.slice a_y8_sectors example_1.sectors.length c_y8_sectors), (Value.slice a_y8_configs example_1.configs.length c_y8_configs), (Value.slice a_y8_segments example_1.segments.length c_y8_segments), (Value.slice a_y8_routes example_1.routes.length c_y8_routes), (Value.slice a_y8_airports example_1.airports.length c_y8_airports), (Value.slice a_y8_classes example_1.classes.length c_y8_classes), (Value.slice a_y8_rules example_1.rules.length c_y8_rules)]) (i := 0) ty31 hs35 rfl rfl rfl rfl ?_)
 replace hm := bd hm; obtain ⟨path_2, hv46, hm⟩ := hm
 refine Rg_op rfl (op_call Try.call22 (c22_configs_Path (a := example_1) (from_ := 1) (to := 1) hs35.ltw f_y8_volumes f_y8_sectors f_y8_configs f_y8_segments f_y8_routes f_y8_airports f_y8_classes f_y8_rules (show InK .i64 1 from by decide) (show InK .i64 1 from by decide) hv46) rfl ?_)
 rintro v47 w48 ⟨hx49, h50⟩
 have hs51 := hs35.call hx49
 have p52 := Step.ext (O := ks [(some b9, Obj.cells [(Value.slice a_y8_volumes example_1.volumes.length c_y8_volumes), (Value.slice a_y8_sectors example_1.sectors.length c_y8_sectors), (Value.slice a_y8_configs example_1.configs.length c_y8_configs), (Value.slice a_y8_segments example_1.segments.length c_y8_segments), (Value.slice a_y8_routes example_1.routes.length c_y8_routes), (Value.slice a_y8_airports example_1.airports.length c_y8_airports), (Value.slice a_y8_classes example_1.classes.length c_y8_classes), (Value.slice a_y8_rules example_1.rules.length c_y8_rules)].toArray 31)] O) hx49
 clear hx49
 replace f_y8_volumes := f_y8_volumes.step p52; replace f_y8_sectors := f_y8_sectors.step p52; replace f_y8_configs := f_y8_configs.step p52; replace f_y8_segments := f_y8_segments.step p52; replace f_y8_routes := f_y8_routes.step p52; replace f_y8_airports := f_y8_airports.step p52; replace f_y8_classes := f_y8_classes.step p52; replace f_y8_rules := f_y8_rules.step p52; replace f_y28 := f_y28.step p52; replace f_y43 := f_y43.step p52; clear p52 hs35
 obtain ⟨v53, v54, v55, rfl, h56, h57, h58⟩ := h50
 obtain ⟨a_y59, c_y59, rfl, f_y59⟩ := un_sl h56
 obtain rfl := h57
 obtain ⟨rfl, r_y61⟩ := h58
 refine Rg_op rfl (op_move (v := (Value.tuple [(Value.slice a_y59 path_2.1.length c_y59), (Value.bool path_2.2.1), (Value.int .i64 path_2.2.2)].toArray)) rfl ?_)
 refine Rg_op rfl (op_extract (v := (Value.slice a_y59 path_2.1.length c_y59)) rfl rfl ?_)
 refine Rg_op rfl (op_extract (v := (Value.bool path_2.2.1)) rfl rfl ?_)
 refine Rg_op rfl (op_extract (v := (Value.int .i64 path_2.2.2)) rfl rfl ?_)
 refine Rg_op rfl (op_assign (v := (Value.slice a_y59 path_2.1.length c_y59)) rfl ?_)
 refine Rg_op rfl (op_assign (v := (Value.bool path_2.2.1)) rfl ?_)
 refine Rg_op rfl (op_assign (v := (Value.int .i64 path_2.2.2)) rfl ?_)
 refine Rg_nil ?_
 refine Wp_seq ?_
 refine Wp_reset [] [(1, (Value.pointer (some ⟨b9, 0, none⟩))), (2, (Value.slice a_y28 reach_1.1.length c_y28)), (3, (Value.int .i64 reach_1.2)), (4, (Value.slice a_y43 path_1.1.length c_y43)), (5, (Value.bool path_1.2.1)), (6, (Value.int .i64 path_1.2.2)), (7, (Value.slice a_y59 path_2.1.length c_y59)), (8, (Value.bool path_2.2.1)), (9, (Value.int .i64 path_2.2.2))] rfl ⟨rfl, rfl, rfl, rfl, rfl, rfl, rfl, rfl, rfl, trivial⟩ fun ξ62 => ?_
 refine Wp_region ?_
 refine Rg_op rfl (op_loadA (cs := [(Value.slice a_y8_volumes example_1.volumes.length c_y8_volumes), (Value.slice a_y8_sectors example_1.sectors.length c_y8_sectors), (Value.slice a_y8_configs example_1.configs.length c_y8_configs), (Value.slice a_y8_segments example_1.segments.length c_y8_segments), (Value.slice a_y8_routes example_1.routes.length c_y8_routes), (Value.slice a_y8_airports example_1.airports.length c_y8_airports), (Value.slice a_y8_classes example_1.classes.length c_y8_classes), (Value.slice a_y8_rules example_1.rules.length c_y8_rules)]) (vs := [(Value.slice a_y8_volumes example_1.volumes.length c_y8_volumes), (Value.slice a_y8_sectors example_1.sectors.length c_y8_sectors), (Value.slice a_y8_configs example_1.configs.length c_y8_configs), (Value.slice a_y8_segments example_1.segments.length c_y8_segments), (Value.slice a_y8_routes example_1.routes.length c_y8_routes), (Value.slice a_y8_airports example_1.airports.length c_y8_airports), (Value.slice a_y8_classes example_1.classes.length c_y8_classes), (Value.slice a_y8_rules example_1.rules.length c_y8_rules)]) (i := 0) ty31 hs51 rfl rfl rfl rfl ?_)
 replace hm := bd hm; obtain ⟨stuck_1, hv63, hm⟩ := hm
 refine Rg_op rfl (op_call Try.call24 (c24_configs_Stuck (a := example_1) hs51.ltw f_y8_volumes f_y8_sectors f_y8_configs f_y8_segments f_y8_routes f_y8_airports f_y8_classes f_y8_rules hv63) rfl ?_)
 rintro v64 w65 ⟨hx66, h67⟩
 have hs68 := hs51.call hx66
 have p69 := Step.ext (O := ks [(some b9, Obj.cells [(Value.slice a_y8_volumes example_1.volumes.length c_y8_volumes), (Value.slice a_y8_sectors example_1.sectors.length c_y8_sectors), (Value.slice a_y8_configs example_1.configs.length c_y8_configs), (Value.slice a_y8_segments example_1.segments.length c_y8_segments), (Value.slice a_y8_routes example_1.routes.length c_y8_routes), (Value.slice a_y8_airports example_1.airports.length c_y8_airports), (Value.slice a_y8_classes example_1.classes.length c_y8_classes), (Value.slice a_y8_rules example_1.rules.length c_y8_rules)].toArray 31)] O) hx66
 clear hx66
 replace f_y8_volumes := f_y8_volumes.step p69; replace f_y8_sectors := f_y8_sectors.step p69; replace f_y8_configs := f_y8_configs.step p69; replace f_y8_segments := f_y8_segments.step p69; replace f_y8_routes := f_y8_routes.step p69; replace f_y8_airports := f_y8_airports.step p69; replace f_y8_classes := f_y8_classes.step p69; replace f_y8_rules := f_y8_rules.step p69; replace f_y28 := f_y28.step p69; replace f_y43 := f_y43.step p69; replace f_y59 := f_y59.step p69; clear p69 hs51
 obtain ⟨v70, v71, v72, v73, rfl, h74, h75, h76, h77⟩ := h67
 obtain ⟨rfl, r_y78⟩ := h74
 obtain ⟨rfl, r_y79⟩ := h75
 obtain rfl := h76
 obtain ⟨rfl, r_y81⟩ := h77
 refine Rg_op rfl (op_move (v := (Value.tuple [(Value.int .i64 stuck_1.1), (Value.int .i64 stuck_1.2.1), (Value.bool stuck_1.2.2.1), (Value.int .i64 stuck_1.2.2.2)].toArray)) rfl ?_)
 refine Rg_op rfl (op_extract (v := (Value.int .i64 stuck_1.1)) rfl rfl ?_)
 refine Rg_op rfl (op_extract (v := (Value.int .i64 stuck_1.2.1)) rfl rfl ?_)
 refine Rg_op rfl (op_extract (v := (Value.bool stuck_1.2.2.1)) rfl rfl ?_)
 refine Rg_op rfl (op_extract (v := (Value.int .i64 stuck_1.2.2.2)) rfl rfl ?_)
 refine Rg_op rfl (op_assign (v := (Value.int .i64 stuck_1.1)) rfl ?_)
 refine Rg_op rfl (op_assign (v := (Value.int .i64 stuck_1.2.1)) rfl ?_)
 refine Rg_op rfl (op_assign (v := (Value.bool stuck_1.2.2.1)) rfl ?_)
 refine Rg_op rfl (op_assign (v := (Value.int .i64 stuck_1.2.2.2)) rfl ?_)
 refine Rg_nil ?_
 refine Wp_seq ?_
 refine Wp_region ?_
 refine Rg_op rfl (op_loadA (cs := [(Value.slice a_y8_volumes example_1.volumes.length c_y8_volumes), (Value.slice a_y8_sectors example_1.sectors.length c_y8_sectors), (Value.slice a_y8_configs example_1.configs.length c_y8_configs), (Value.slice a_y8_segments example_1.segments.length c_y8_segments), (Value.slice a_y8_routes example_1.routes.length c_y8_routes), (Value.slice a_y8_airports example_1.airports.length c_y8_airports), (Value.slice a_y8_classes example_1.classes.length c_y8_classes), (Value.slice a_y8_rules example_1.rules.length c_y8_rules)]) (vs := [(Value.slice a_y8_volumes example_1.volumes.length c_y8_volumes), (Value.slice a_y8_sectors example_1.sectors.length c_y8_sectors), (Value.slice a_y8_configs example_1.configs.length c_y8_configs), (Value.slice a_y8_segments example_1.segments.length c_y8_segments), (Value.slice a_y8_routes example_1.routes.length c_y8_routes), (Value.slice a_y8_airports example_1.airports.length c_y8_airports), (Value.slice a_y8_classes example_1.classes.length c_y8_classes), (Value.slice a_y8_rules example_1.rules.length c_y8_rules)]) (i := 0) ty31 hs68 rfl rfl rfl rfl ?_)
 refine Rg_op rfl (op_alloc ty31 hs68 ?_)
 intro b82 w83 _ p84 hs85
 replace f_y8_volumes := f_y8_volumes.step p84; replace f_y8_sectors := f_y8_sectors.step p84; replace f_y8_configs := f_y8_configs.step p84; replace f_y8_segments := f_y8_segments.step p84; replace f_y8_routes := f_y8_routes.step p84; replace f_y8_airports := f_y8_airports.step p84; replace f_y8_classes := f_y8_classes.step p84; replace f_y8_rules := f_y8_rules.step p84; replace f_y28 := f_y28.step p84; replace f_y43 := f_y43.step p84; replace f_y59 := f_y59.step p84; clear p84 hs68
 refine Rg_op_ (op_store (cs := [(Value.slice none 0 0), (Value.slice none 0 0), (Value.slice none 0 0), (Value.slice none 0 0), (Value.slice none 0 0), (Value.slice none 0 0), (Value.slice none 0 0), (Value.slice none 0 0)]) (vs := [(Value.slice a_y8_volumes example_1.volumes.length c_y8_volumes), (Value.slice a_y8_sectors example_1.sectors.length c_y8_sectors), (Value.slice a_y8_configs example_1.configs.length c_y8_configs), (Value.slice a_y8_segments example_1.segments.length c_y8_segments), (Value.slice a_y8_routes example_1.routes.length c_y8_routes), (Value.slice a_y8_airports example_1.airports.length c_y8_airports), (Value.slice a_y8_classes example_1.classes.length c_y8_classes), (Value.slice a_y8_rules example_1.rules.length c_y8_rules)]) (cs' := [(Value.slice a_y8_volumes example_1.volumes.length c_y8_volumes), (Value.slice a_y8_sectors example_1.sectors.length c_y8_sectors), (Value.slice a_y8_configs example_1.configs.length c_y8_configs), (Value.slice a_y8_segments example_1.segments.length c_y8_segments), (Value.slice a_y8_routes example_1.routes.length c_y8_routes), (Value.slice a_y8_airports example_1.airports.length c_y8_airports), (Value.slice a_y8_classes example_1.classes.length c_y8_classes), (Value.slice a_y8_rules example_1.rules.length c_y8_rules)]) (bs' := [(some b82, Obj.cells [(Value.slice a_y8_volumes example_1.volumes.length c_y8_volumes), (Value.slice a_y8_sectors example_1.sectors.length c_y8_sectors), (Value.slice a_y8_configs example_1.configs.length c_y8_configs), (Value.slice a_y8_segments example_1.segments.length c_y8_segments), (Value.slice a_y8_routes example_1.routes.length c_y8_routes), (Value.slice a_y8_airports example_1.airports.length c_y8_airports), (Value.slice a_y8_classes example_1.classes.length c_y8_classes), (Value.slice a_y8_rules example_1.rules.length c_y8_rules)].toArray 31), (some b9, Obj.cells [(Value.slice a_y8_volumes example_1.volumes.length c_y8_volumes), (Value.slice a_y8_sectors example_1.sectors.length c_y8_sectors), (Value.slice a_y8_configs example_1.configs.length c_y8_configs), (Value.slice a_y8_segments example_1.segments.length c_y8_segments), (Value.slice a_y8_routes example_1.routes.length c_y8_routes), (Value.slice a_y8_airports example_1.airports.length c_y8_airports), (Value.slice a_y8_classes example_1.classes.length c_y8_classes), (Value.slice a_y8_rules example_1.rules.length c_y8_rules)].toArray 31)]) (i := 0) ty31 hs85 rfl rfl rfl rfl rfl (le_lit rfl) rfl rfl rfl ?_)
 intro w87 p88 hs89
 replace f_y8_volumes := f_y8_volumes.step p88; replace f_y8_sectors := f_y8_sectors.step p88; replace f_y8_configs := f_y8_configs.step p88; replace f_y8_segments := f_y8_segments.step p88; replace f_y8_routes := f_y8_routes.step p88; replace f_y8_airports := f_y8_airports.step p88; replace f_y8_classes := f_y8_classes.step p88; replace f_y8_rules := f_y8_rules.step p88; replace f_y28 := f_y28.step p88; replace f_y43 := f_y43.step p88; replace f_y59 := f_y59.step p88; clear p88 hs85
 refine Rg_nil ?_
 refine Wp_seq ?_
 refine Wp_region ?_
 refine Rg_op rfl (op_fieldAddr ty31 rfl ty24 (by decide) rfl (rfl : _ = (⟨_, 2, none⟩ : Addr)) ?_)
 refine Rg_op rfl (op_load (cs := [(Value.slice a_y8_volumes example_1.volumes.length c_y8_volumes), (Value.slice a_y8_sectors example_1.sectors.length c_y8_sectors), (Value.slice a_y8_configs example_1.configs.length c_y8_configs), (Value.slice a_y8_segments example_1.segments.length c_y8_segments), (Value.slice a_y8_routes example_1.routes.length c_y8_routes), (Value.slice a_y8_airports example_1.airports.length c_y8_airports), (Value.slice a_y8_classes example_1.classes.length c_y8_classes), (Value.slice a_y8_rules example_1.rules.length c_y8_rules)]) (i := 1) ty24 hs89 rfl rfl rfl ?_)
 replace hm := ck_some hm; obtain ⟨hc90, hm⟩ := hm
 refine Rg_op rfl (op_slice (q := rXConfig) (l := 0) (h := 2) (m := c_y8_configs) ty24 ty52 rfl f_y8_configs rfl rfl (bndI rfl (by omega)) rfl (by decide) (by omega) (by omega) (by have h_ : example_1.configs.length ≤ c_y8_configs := f_y8_configs.le; omega) (by have h_ : example_1.configs.length ≤ c_y8_configs := f_y8_configs.le; omega) ?_)
 intro a91 f92
 refine Rg_op rfl (op_fieldAddr ty31 rfl ty24 (by decide) rfl (rfl : _ = (⟨_, 2, none⟩ : Addr)) ?_)
 refine Rg_op_ (op_store (cs := [(Value.slice a_y8_volumes example_1.volumes.length c_y8_volumes), (Value.slice a_y8_sectors example_1.sectors.length c_y8_sectors), (Value.slice a_y8_configs example_1.configs.length c_y8_configs), (Value.slice a_y8_segments example_1.segments.length c_y8_segments), (Value.slice a_y8_routes example_1.routes.length c_y8_routes), (Value.slice a_y8_airports example_1.airports.length c_y8_airports), (Value.slice a_y8_classes example_1.classes.length c_y8_classes), (Value.slice a_y8_rules example_1.rules.length c_y8_rules)]) (vs := [(Value.slice a91 ((example_1.configs.drop 0).take (2 - 0)).length (c_y8_configs - 0))]) (cs' := [(Value.slice a_y8_volumes example_1.volumes.length c_y8_volumes), (Value.slice a_y8_sectors example_1.sectors.length c_y8_sectors), (Value.slice a91 ((example_1.configs.drop 0).take (2 - 0)).length (c_y8_configs - 0)), (Value.slice a_y8_segments example_1.segments.length c_y8_segments), (Value.slice a_y8_routes example_1.routes.length c_y8_routes), (Value.slice a_y8_airports example_1.airports.length c_y8_airports), (Value.slice a_y8_classes example_1.classes.length c_y8_classes), (Value.slice a_y8_rules example_1.rules.length c_y8_rules)]) (bs' := [(some b82, Obj.cells [(Value.slice a_y8_volumes example_1.volumes.length c_y8_volumes), (Value.slice a_y8_sectors example_1.sectors.length c_y8_sectors), (Value.slice a91 ((example_1.configs.drop 0).take (2 - 0)).length (c_y8_configs - 0)), (Value.slice a_y8_segments example_1.segments.length c_y8_segments), (Value.slice a_y8_routes example_1.routes.length c_y8_routes), (Value.slice a_y8_airports example_1.airports.length c_y8_airports), (Value.slice a_y8_classes example_1.classes.length c_y8_classes), (Value.slice a_y8_rules example_1.rules.length c_y8_rules)].toArray 31), (some b9, Obj.cells [(Value.slice a_y8_volumes example_1.volumes.length c_y8_volumes), (Value.slice a_y8_sectors example_1.sectors.length c_y8_sectors), (Value.slice a_y8_configs example_1.configs.length c_y8_configs), (Value.slice a_y8_segments example_1.segments.length c_y8_segments), (Value.slice a_y8_routes example_1.routes.length c_y8_routes), (Value.slice a_y8_airports example_1.airports.length c_y8_airports), (Value.slice a_y8_classes example_1.classes.length c_y8_classes), (Value.slice a_y8_rules example_1.rules.length c_y8_rules)].toArray 31)]) (i := 0) ty24 hs89 rfl rfl rfl rfl rfl (le_lit rfl) rfl rfl rfl ?_)
 intro w93 p94 hs95
 replace f_y8_volumes := f_y8_volumes.step p94; replace f_y8_sectors := f_y8_sectors.step p94; replace f_y8_configs := f_y8_configs.step p94; replace f_y8_segments := f_y8_segments.step p94; replace f_y8_routes := f_y8_routes.step p94; replace f_y8_airports := f_y8_airports.step p94; replace f_y8_classes := f_y8_classes.step p94; replace f_y8_rules := f_y8_rules.step p94; replace f_y28 := f_y28.step p94; replace f_y43 := f_y43.step p94; replace f_y59 := f_y59.step p94; replace f92 := f92.step p94; clear p94 hs89
 refine Rg_nil ?_
 refine Wp_seq ?_
 refine Wp_region ?_
 refine Rg_op rfl (op_loadA (cs := [(Value.slice a_y8_volumes example_1.volumes.length c_y8_volumes), (Value.slice a_y8_sectors example_1.sectors.length c_y8_sectors), (Value.slice a91 ((example_1.configs.drop 0).take (2 - 0)).length (c_y8_configs - 0)), (Value.slice a_y8_segments example_1.segments.length c_y8_segments), (Value.slice a_y8_routes example_1.routes.length c_y8_routes), (Value.slice a_y8_airports example_1.airports.length c_y8_airports), (Value.slice a_y8_classes example_1.classes.length c_y8_classes), (Value.slice a_y8_rules example_1.rules.length c_y8_rules)]) (vs := [(Value.slice a_y8_volumes example_1.volumes.length c_y8_volumes), (Value.slice a_y8_sectors example_1.sectors.length c_y8_sectors), (Value.slice a91 ((example_1.configs.drop 0).take (2 - 0)).length (c_y8_configs - 0)), (Value.slice a_y8_segments example_1.segments.length c_y8_segments), (Value.slice a_y8_routes example_1.routes.length c_y8_routes), (Value.slice a_y8_airports example_1.airports.length c_y8_airports), (Value.slice a_y8_classes example_1.classes.length c_y8_classes), (Value.slice a_y8_rules example_1.rules.length c_y8_rules)]) (i := 0) ty31 hs95 rfl rfl rfl rfl ?_)
 replace hm := bd hm; obtain ⟨stuck_2, hv96, hm⟩ := hm
 refine Rg_op rfl (op_call Try.call24 (c24_configs_Stuck (a := (⟨example_1.volumes, example_1.sectors, ((example_1.configs.drop 0).take (2 - 0)), example_1.segments, example_1.routes, example_1.airports, example_1.classes, example_1.rules⟩ : XAirspace)) hs95.ltw f_y8_volumes f_y8_sectors f92 f_y8_segments f_y8_routes f_y8_airports f_y8_classes f_y8_rules hv96) rfl ?_)
 rintro v97 w98 ⟨hx99, h100⟩
 have hs101 := hs95.call hx99
 have p102 := Step.ext (O := ks [(some b82, Obj.cells [(Value.slice a_y8_volumes example_1.volumes.length c_y8_volumes), (Value.slice a_y8_sectors example_1.sectors.length c_y8_sectors), (Value.slice a91 ((example_1.configs.drop 0).take (2 - 0)).length (c_y8_configs - 0)), (Value.slice a_y8_segments example_1.segments.length c_y8_segments), (Value.slice a_y8_routes example_1.routes.length c_y8_routes), (Value.slice a_y8_airports example_1.airports.length c_y8_airports), (Value.slice a_y8_classes example_1.classes.length c_y8_classes), (Value.slice a_y8_rules example_1.rules.length c_y8_rules)].toArray 31), (some b9, Obj.cells [(Value.slice a_y8_volumes example_1.volumes.length c_y8_volumes), (Value.slice a_y8_sectors example_1.sectors.length c_y8_sectors), (Value.slice a_y8_configs example_1.configs.length c_y8_configs), (Value.slice a_y8_segments example_1.segments.length c_y8_segments), (Value.slice a_y8_routes example_1.routes.length c_y8_routes), (Value.slice a_y8_airports example_1.airports.length c_y8_airports), (Value.slice a_y8_classes example_1.classes.length c_y8_classes), (Value.slice a_y8_rules example_1.rules.length c_y8_rules)].toArray 31)] O) hx99
 clear hx99
 replace f_y8_volumes := f_y8_volumes.step p102; replace f_y8_sectors := f_y8_sectors.step p102; replace f_y8_configs := f_y8_configs.step p102; replace f_y8_segments := f_y8_segments.step p102; replace f_y8_routes := f_y8_routes.step p102; replace f_y8_airports := f_y8_airports.step p102; replace f_y8_classes := f_y8_classes.step p102; replace f_y8_rules := f_y8_rules.step p102; replace f_y28 := f_y28.step p102; replace f_y43 := f_y43.step p102; replace f_y59 := f_y59.step p102; replace f92 := f92.step p102; clear p102 hs95
 obtain ⟨v103, v104, v105, v106, rfl, h107, h108, h109, h110⟩ := h100
 obtain ⟨rfl, r_y111⟩ := h107
 obtain ⟨rfl, r_y112⟩ := h108
 obtain rfl := h109
 obtain ⟨rfl, r_y114⟩ := h110
 refine Rg_op rfl (op_move (v := (Value.tuple [(Value.int .i64 stuck_2.1), (Value.int .i64 stuck_2.2.1), (Value.bool stuck_2.2.2.1), (Value.int .i64 stuck_2.2.2.2)].toArray)) rfl ?_)
 refine Rg_op rfl (op_extract (v := (Value.int .i64 stuck_2.1)) rfl rfl ?_)
 refine Rg_op rfl (op_extract (v := (Value.int .i64 stuck_2.2.1)) rfl rfl ?_)
 refine Rg_op rfl (op_extract (v := (Value.bool stuck_2.2.2.1)) rfl rfl ?_)
 refine Rg_op rfl (op_extract (v := (Value.int .i64 stuck_2.2.2.2)) rfl rfl ?_)
 refine Rg_op rfl (op_assign (v := (Value.int .i64 stuck_2.1)) rfl ?_)
 refine Rg_op rfl (op_assign (v := (Value.int .i64 stuck_2.2.1)) rfl ?_)
 refine Rg_op rfl (op_assign (v := (Value.bool stuck_2.2.2.1)) rfl ?_)
 refine Rg_op rfl (op_assign (v := (Value.int .i64 stuck_2.2.2.2)) rfl ?_)
 refine Rg_nil ?_
 refine Wp_seq ?_
 refine Wp_reset [] [(1, (Value.pointer (some ⟨b9, 0, none⟩))), (2, (Value.slice a_y28 reach_1.1.length c_y28)), (3, (Value.int .i64 reach_1.2)), (4, (Value.slice a_y43 path_1.1.length c_y43)), (5, (Value.bool path_1.2.1)), (6, (Value.int .i64 path_1.2.2)), (7, (Value.slice a_y59 path_2.1.length c_y59)), (8, (Value.bool path_2.2.1)), (9, (Value.int .i64 path_2.2.2)), (10, (Value.int .i64 stuck_1.1)), (11, (Value.int .i64 stuck_1.2.1)), (12, (Value.bool stuck_1.2.2.1)), (13, (Value.int .i64 stuck_1.2.2.2)), (14, (Value.pointer (some ⟨b82, 0, none⟩))), (15, (Value.int .i64 stuck_2.1)), (16, (Value.int .i64 stuck_2.2.1)), (17, (Value.bool stuck_2.2.2.1)), (18, (Value.int .i64 stuck_2.2.2.2))] rfl ⟨rfl, rfl, rfl, rfl, rfl, rfl, rfl, rfl, rfl, rfl, rfl, rfl, rfl, rfl, rfl, rfl, rfl, rfl, trivial⟩ fun ξ115 => ?_
 refine Wp_region ?_
 refine Rg_op rfl (op_loadA (cs := [(Value.slice a_y8_volumes example_1.volumes.length c_y8_volumes), (Value.slice a_y8_sectors example_1.sectors.length c_y8_sectors), (Value.slice a91 ((example_1.configs.drop 0).take (2 - 0)).length (c_y8_configs - 0)), (Value.slice a_y8_segments example_1.segments.length c_y8_segments), (Value.slice a_y8_routes example_1.routes.length c_y8_routes), (Value.slice a_y8_airports example_1.airports.length c_y8_airports), (Value.slice a_y8_classes example_1.classes.length c_y8_classes), (Value.slice a_y8_rules example_1.rules.length c_y8_rules)]) (vs := [(Value.slice a_y8_volumes example_1.volumes.length c_y8_volumes), (Value.slice a_y8_sectors example_1.sectors.length c_y8_sectors), (Value.slice a91 ((example_1.configs.drop 0).take (2 - 0)).length (c_y8_configs - 0)), (Value.slice a_y8_segments example_1.segments.length c_y8_segments), (Value.slice a_y8_routes example_1.routes.length c_y8_routes), (Value.slice a_y8_airports example_1.airports.length c_y8_airports), (Value.slice a_y8_classes example_1.classes.length c_y8_classes), (Value.slice a_y8_rules example_1.rules.length c_y8_rules)]) (i := 0) ty31 hs101 rfl rfl rfl rfl ?_)
 replace hm := bd hm; obtain ⟨reach_2, hv116, hm⟩ := hm
 refine Rg_op rfl (op_call Try.call17 (c17_configs_Reach (a := (⟨example_1.volumes, example_1.sectors, ((example_1.configs.drop 0).take (2 - 0)), example_1.segments, example_1.routes, example_1.airports, example_1.classes, example_1.rules⟩ : XAirspace)) (from_ := 1) hs101.ltw f_y8_volumes f_y8_sectors f92 f_y8_segments f_y8_routes f_y8_airports f_y8_classes f_y8_rules (show InK .i64 1 from by decide) hv116) rfl ?_)
 rintro v117 w118 ⟨hx119, h120⟩
 have hs121 := hs101.call hx119
 have p122 := Step.ext (O := ks [(some b82, Obj.cells [(Value.slice a_y8_volumes example_1.volumes.length c_y8_volumes), (Value.slice a_y8_sectors example_1.sectors.length c_y8_sectors), (Value.slice a91 ((example_1.configs.drop 0).take (2 - 0)).length (c_y8_configs - 0)), (Value.slice a_y8_segments example_1.segments.length c_y8_segments), (Value.slice a_y8_routes example_1.routes.length c_y8_routes), (Value.slice a_y8_airports example_1.airports.length c_y8_airports), (Value.slice a_y8_classes example_1.classes.length c_y8_classes), (Value.slice a_y8_rules example_1.rules.length c_y8_rules)].toArray 31), (some b9, Obj.cells [(Value.slice a_y8_volumes example_1.volumes.length c_y8_volumes), (Value.slice a_y8_sectors example_1.sectors.length c_y8_sectors), (Value.slice a_y8_configs example_1.configs.length c_y8_configs), (Value.slice a_y8_segments example_1.segments.length c_y8_segments), (Value.slice a_y8_routes example_1.routes.length c_y8_routes), (Value.slice a_y8_airports example_1.airports.length c_y8_airports), (Value.slice a_y8_classes example_1.classes.length c_y8_classes), (Value.slice a_y8_rules example_1.rules.length c_y8_rules)].toArray 31)] O) hx119
 clear hx119
 replace f_y8_volumes := f_y8_volumes.step p122; replace f_y8_sectors := f_y8_sectors.step p122; replace f_y8_configs := f_y8_configs.step p122; replace f_y8_segments := f_y8_segments.step p122; replace f_y8_routes := f_y8_routes.step p122; replace f_y8_airports := f_y8_airports.step p122; replace f_y8_classes := f_y8_classes.step p122; replace f_y8_rules := f_y8_rules.step p122; replace f_y28 := f_y28.step p122; replace f_y43 := f_y43.step p122; replace f_y59 := f_y59.step p122; replace f92 := f92.step p122; clear p122 hs101
 obtain ⟨v123, v124, rfl, h125, h126⟩ := h120
 obtain ⟨a_y127, c_y127, rfl, f_y127⟩ := un_sl h125
 obtain ⟨rfl, r_y128⟩ := h126
 refine Rg_op rfl (op_move (v := (Value.tuple [(Value.slice a_y127 reach_2.1.length c_y127), (Value.int .i64 reach_2.2)].toArray)) rfl ?_)
 refine Rg_op rfl (op_extract (v := (Value.slice a_y127 reach_2.1.length c_y127)) rfl rfl ?_)
 refine Rg_op rfl (op_extract (v := (Value.int .i64 reach_2.2)) rfl rfl ?_)
 refine Rg_op rfl (op_assign (v := (Value.slice a_y127 reach_2.1.length c_y127)) rfl ?_)
 refine Rg_op rfl (op_assign (v := (Value.int .i64 reach_2.2)) rfl ?_)
 refine Rg_nil ?_
 refine Wp_seq ?_
 obtain ⟨hs129, p130⟩ := hs121.sub (bs' := [(some b9, Obj.cells [(Value.slice a_y8_volumes example_1.volumes.length c_y8_volumes), (Value.slice a_y8_sectors example_1.sectors.length c_y8_sectors), (Value.slice a_y8_configs example_1.configs.length c_y8_configs), (Value.slice a_y8_segments example_1.segments.length c_y8_segments), (Value.slice a_y8_routes example_1.routes.length c_y8_routes), (Value.slice a_y8_airports example_1.airports.length c_y8_airports), (Value.slice a_y8_classes example_1.classes.length c_y8_classes), (Value.slice a_y8_rules example_1.rules.length c_y8_rules)].toArray 31)]) (.cons _ (.cons_cons _ List.Sublist.slnil))
 clear f92
 replace f_y8_volumes := f_y8_volumes.step p130; replace f_y8_sectors := f_y8_sectors.step p130; replace f_y8_configs := f_y8_configs.step p130; replace f_y8_segments := f_y8_segments.step p130; replace f_y8_routes := f_y8_routes.step p130; replace f_y8_airports := f_y8_airports.step p130; replace f_y8_classes := f_y8_classes.step p130; replace f_y8_rules := f_y8_rules.step p130; replace f_y28 := f_y28.step p130; replace f_y43 := f_y43.step p130; replace f_y59 := f_y59.step p130; replace f_y127 := f_y127.step p130; clear p130 hs121
 refine Wp_region ?_
 refine Rg_op rfl (op_loadA (cs := [(Value.slice a_y8_volumes example_1.volumes.length c_y8_volumes), (Value.slice a_y8_sectors example_1.sectors.length c_y8_sectors), (Value.slice a_y8_configs example_1.configs.length c_y8_configs), (Value.slice a_y8_segments example_1.segments.length c_y8_segments), (Value.slice a_y8_routes example_1.routes.length c_y8_routes), (Value.slice a_y8_airports example_1.airports.length c_y8_airports), (Value.slice a_y8_classes example_1.classes.length c_y8_classes), (Value.slice a_y8_rules example_1.rules.length c_y8_rules)]) (vs := [(Value.slice a_y8_volumes example_1.volumes.length c_y8_volumes), (Value.slice a_y8_sectors example_1.sectors.length c_y8_sectors), (Value.slice a_y8_configs example_1.configs.length c_y8_configs), (Value.slice a_y8_segments example_1.segments.length c_y8_segments), (Value.slice a_y8_routes example_1.routes.length c_y8_routes), (Value.slice a_y8_airports example_1.airports.length c_y8_airports), (Value.slice a_y8_classes example_1.classes.length c_y8_classes), (Value.slice a_y8_rules example_1.rules.length c_y8_rules)]) (i := 0) ty31 hs129 rfl rfl rfl rfl ?_)
 replace hm := bd hm; obtain ⟨sector_1, hv131, hm⟩ := hm
 refine Rg_op rfl (op_call Try.call13 (c13_configs_Sector (a := example_1) (konfig := 2) (volume := 0) hs129.ltw f_y8_volumes f_y8_sectors f_y8_configs f_y8_segments f_y8_routes f_y8_airports f_y8_classes f_y8_rules (show InK .i64 2 from by decide) (show InK .i64 0 from by decide) hv131) rfl ?_)
 rintro v132 w133 ⟨hx134, h135⟩
 have hs136 := hs129.call hx134
 have p137 := Step.ext (O := ks [(some b9, Obj.cells [(Value.slice a_y8_volumes example_1.volumes.length c_y8_volumes), (Value.slice a_y8_sectors example_1.sectors.length c_y8_sectors), (Value.slice a_y8_configs example_1.configs.length c_y8_configs), (Value.slice a_y8_segments example_1.segments.length c_y8_segments), (Value.slice a_y8_routes example_1.routes.length c_y8_routes), (Value.slice a_y8_airports example_1.airports.length c_y8_airports), (Value.slice a_y8_classes example_1.classes.length c_y8_classes), (Value.slice a_y8_rules example_1.rules.length c_y8_rules)].toArray 31)] O) hx134
 clear hx134
 replace f_y8_volumes := f_y8_volumes.step p137; replace f_y8_sectors := f_y8_sectors.step p137; replace f_y8_configs := f_y8_configs.step p137; replace f_y8_segments := f_y8_segments.step p137; replace f_y8_routes := f_y8_routes.step p137; replace f_y8_airports := f_y8_airports.step p137; replace f_y8_classes := f_y8_classes.step p137; replace f_y8_rules := f_y8_rules.step p137; replace f_y28 := f_y28.step p137; replace f_y43 := f_y43.step p137; replace f_y59 := f_y59.step p137; replace f_y127 := f_y127.step p137; clear p137 hs129
 obtain ⟨v138, v139, rfl, h140, h141⟩ := h135
 obtain ⟨rfl, r_y142⟩ := h140
 obtain rfl := h141
 refine Rg_op rfl (op_move (v := (Value.tuple [(Value.int .i64 sector_1.1), (Value.bool sector_1.2)].toArray)) rfl ?_)
 refine Rg_op rfl (op_extract (v := (Value.int .i64 sector_1.1)) rfl rfl ?_)
 refine Rg_op rfl (op_extract (v := (Value.bool sector_1.2)) rfl rfl ?_)
 refine Rg_op rfl (op_assign (v := (Value.int .i64 sector_1.1)) rfl ?_)
 refine Rg_op rfl (op_assign (v := (Value.bool sector_1.2)) rfl ?_)
 refine Rg_nil ?_
 refine Wp_seq ?_
 refine Wp_region ?_
 refine Rg_op rfl (op_build (vs := [(Value.slice none 0 0), (Value.slice none 0 0), (Value.slice none 0 0), (Value.slice none 0 0), (Value.slice none 0 0), (Value.slice none 0 0), (Value.slice none 0 0), (Value.slice none 0 0)]) (parts := []) ty31 pl31 rfl ?_)
 replace hm := bd hm; obtain ⟨sector_2, hv144, hm⟩ := hm
 refine Rg_op rfl (op_call Try.call13 (c13_configs_Sector (a := (⟨([] : List XVolume), ([] : List XSector), ([] : List XConfig), ([] : List XSegment), ([] : List XRoute), ([] : List XAirport), ([] : List XClass), ([] : List XRule)⟩ : XAirspace)) (konfig := 0) (volume := 0) hs136.ltw SlR.nil_ SlR.nil_ SlR.nil_ SlR.nil_ SlR.nil_ SlR.nil_ SlR.nil_ SlR.nil_ (show InK .i64 0 from by decide) (show InK .i64 0 from by decide) hv144) rfl ?_)
 rintro v145 w146 ⟨hx147, h148⟩
 have hs149 := hs136.call hx147
 have p150 := Step.ext (O := ks [(some b9, Obj.cells [(Value.slice a_y8_volumes example_1.volumes.length c_y8_volumes), (Value.slice a_y8_sectors example_1.sectors.length c_y8_sectors), (Value.slice a_y8_configs example_1.configs.length c_y8_configs), (Value.slice a_y8_segments example_1.segments.length c_y8_segments), (Value.slice a_y8_routes example_1.routes.length c_y8_routes), (Value.slice a_y8_airports example_1.airports.length c_y8_airports), (Value.slice a_y8_classes example_1.classes.length c_y8_classes), (Value.slice a_y8_rules example_1.rules.length c_y8_rules)].toArray 31)] O) hx147
 clear hx147
 replace f_y8_volumes := f_y8_volumes.step p150; replace f_y8_sectors := f_y8_sectors.step p150; replace f_y8_configs := f_y8_configs.step p150; replace f_y8_segments := f_y8_segments.step p150; replace f_y8_routes := f_y8_routes.step p150; replace f_y8_airports := f_y8_airports.step p150; replace f_y8_classes := f_y8_classes.step p150; replace f_y8_rules := f_y8_rules.step p150; replace f_y28 := f_y28.step p150; replace f_y43 := f_y43.step p150; replace f_y59 := f_y59.step p150; replace f_y127 := f_y127.step p150; clear p150 hs136
 obtain ⟨v151, v152, rfl, h153, h154⟩ := h148
 obtain ⟨rfl, r_y155⟩ := h153
 obtain rfl := h154
 refine Rg_op rfl (op_move (v := (Value.tuple [(Value.int .i64 sector_2.1), (Value.bool sector_2.2)].toArray)) rfl ?_)
 refine Rg_op rfl (op_extract (v := (Value.int .i64 sector_2.1)) rfl rfl ?_)
 refine Rg_op rfl (op_extract (v := (Value.bool sector_2.2)) rfl rfl ?_)
 refine Rg_op rfl (op_assign (v := (Value.int .i64 sector_2.1)) rfl ?_)
 refine Rg_op rfl (op_assign (v := (Value.bool sector_2.2)) rfl ?_)
 refine Rg_nil ?_
 refine Wp_reset [] [(1, (Value.pointer (some ⟨b9, 0, none⟩))), (2, (Value.slice a_y28 reach_1.1.length c_y28)), (3, (Value.int .i64 reach_1.2)), (4, (Value.slice a_y43 path_1.1.length c_y43)), (5, (Value.bool path_1.2.1)), (6, (Value.int .i64 path_1.2.2)), (7, (Value.slice a_y59 path_2.1.length c_y59)), (8, (Value.bool path_2.2.1)), (9, (Value.int .i64 path_2.2.2)), (10, (Value.int .i64 stuck_1.1)), (11, (Value.int .i64 stuck_1.2.1)), (12, (Value.bool stuck_1.2.2.1)), (13, (Value.int .i64 stuck_1.2.2.2)), (15, (Value.int .i64 stuck_2.1)), (16, (Value.int .i64 stuck_2.2.1)), (17, (Value.bool stuck_2.2.2.1)), (18, (Value.int .i64 stuck_2.2.2.2)), (19, (Value.slice a_y127 reach_2.1.length c_y127)), (20, (Value.int .i64 reach_2.2)), (21, (Value.int .i64 sector_1.1)), (22, (Value.bool sector_1.2)), (24, (Value.bool sector_2.2))] rfl ⟨rfl, rfl, rfl, rfl, rfl, rfl, rfl, rfl, rfl, rfl, rfl, rfl, rfl, rfl, rfl, rfl, rfl, rfl, rfl, rfl, rfl, rfl, trivial⟩ fun ξ157 => ?_
 replace hm := jn_elim hm; obtain ⟨k159, hk160, hm⟩ := hm
 refine Wp_seqJ [25, 78, 79, 80, 81, 82, 83, 84, 85, 86, 87, 88, 89, 90, 91, 92, 93, 94, 95, 96, 97, 98, 99, 100, 101, 102, 103, 104, 105, 106, 107, 108, 109, 110, 111, 112, 113, 114, 115, 116, 117, 118, 119, 120, 121, 122, 123, 124] (fun fr w' => ∃ (good_1 : Bool) (Ebs : Ents), Ebs = [(some b9, Obj.cells [(Value.slice a_y8_volumes example_1.volumes.length c_y8_volumes), (Value.slice a_y8_sectors example_1.sectors.length c_y8_sectors), (Value.slice a_y8_configs example_1.configs.length c_y8_configs), (Value.slice a_y8_segments example_1.segments.length c_y8_segments), (Value.slice a_y8_routes example_1.routes.length c_y8_routes), (Value.slice a_y8_airports example_1.airports.length c_y8_airports), (Value.slice a_y8_classes example_1.classes.length c_y8_classes), (Value.slice a_y8_rules example_1.rules.length c_y8_rules)].toArray 31)] ∧ fr [] [(25, (Value.bool good_1))] ∧ Step (ks [(some b9, Obj.cells [(Value.slice a_y8_volumes example_1.volumes.length c_y8_volumes), (Value.slice a_y8_sectors example_1.sectors.length c_y8_sectors), (Value.slice a_y8_configs example_1.configs.length c_y8_configs), (Value.slice a_y8_segments example_1.segments.length c_y8_segments), (Value.slice a_y8_routes example_1.routes.length c_y8_routes), (Value.slice a_y8_airports example_1.airports.length c_y8_airports), (Value.slice a_y8_classes example_1.classes.length c_y8_classes), (Value.slice a_y8_rules example_1.rules.length c_y8_rules)].toArray 31)] O) w146 (ks Ebs O) w' ∧ St ⟨w, [], []⟩ O w' Ebs ∧ k159 good_1 = some x) ?_ ?_
 ·
  rintro ρ166 w162 ⟨good_1, Ebs, hEbs, hfr165, hst164, hs163, hm⟩
  replace hm := jnE1 hk160 hm
  subst hEbs; rw [hfr165.eq]; clear hfr165
  replace f_y8_volumes := f_y8_volumes.step hst164; replace f_y8_sectors := f_y8_sectors.step hst164; replace f_y8_configs := f_y8_configs.step hst164; replace f_y8_segments := f_y8_segments.step hst164; replace f_y8_routes := f_y8_routes.step hst164; replace f_y8_airports := f_y8_airports.step hst164; replace f_y8_classes := f_y8_classes.step hst164; replace f_y8_rules := f_y8_rules.step hst164; replace f_y28 := f_y28.step hst164; replace f_y43 := f_y43.step hst164; replace f_y59 := f_y59.step hst164; replace f_y127 := f_y127.step hst164; clear hst164 hs149
  refine Wp_reset [] [(1, (Value.pointer (some ⟨b9, 0, none⟩))), (15, (Value.int .i64 stuck_2.1)), (16, (Value.int .i64 stuck_2.2.1)), (17, (Value.bool stuck_2.2.2.1)), (18, (Value.int .i64 stuck_2.2.2.2)), (19, (Value.slice a_y127 reach_2.1.length c_y127)), (20, (Value.int .i64 reach_2.2)), (21, (Value.int .i64 sector_1.1)), (22, (Value.bool sector_1.2)), (24, (Value.bool sector_2.2)), (25, (Value.bool good_1))] rfl ⟨rfl, rfl, rfl, rfl, rfl, rfl, rfl, rfl, rfl, rfl, rfl, trivial⟩ fun ξ167 => ?_
  replace hm := jn_elim hm; obtain ⟨k169, hk170, hm⟩ := hm
  refine Wp_seqJ [0, 125, 126, 127, 128, 129, 130, 131, 132, 133, 134, 135, 136, 137, 138, 139, 140, 141, 142, 143, 144, 145, 146, 147, 148, 149, 150, 151, 152, 153, 154, 155, 156, 157, 158, 159, 160, 161, 162, 163, 164, 165, 166, 167, 168, 169, 170, 171, 172, 173, 174, 175, 176, 177, 178, 179, 180, 181, 182, 183, 184] (fun fr w' => ∃ (v_1 : Bool) (Ebs : Ents), Ebs = [(some b9, Obj.cells [(Value.slice a_y8_volumes example_1.volumes.length c_y8_volumes), (Value.slice a_y8_sectors example_1.sectors.length c_y8_sectors), (Value.slice a_y8_configs example_1.configs.length c_y8_configs), (Value.slice a_y8_segments example_1.segments.length c_y8_segments), (Value.slice a_y8_routes example_1.routes.length c_y8_routes), (Value.slice a_y8_airports example_1.airports.length c_y8_airports), (Value.slice a_y8_classes example_1.classes.length c_y8_classes), (Value.slice a_y8_rules example_1.rules.length c_y8_rules)].toArray 31)] ∧ fr [] [(0, (Value.bool v_1))] ∧ Step (ks [(some b9, Obj.cells [(Value.slice a_y8_volumes example_1.volumes.length c_y8_volumes), (Value.slice a_y8_sectors example_1.sectors.length c_y8_sectors), (Value.slice a_y8_configs example_1.configs.length c_y8_configs), (Value.slice a_y8_segments example_1.segments.length c_y8_segments), (Value.slice a_y8_routes example_1.routes.length c_y8_routes), (Value.slice a_y8_airports example_1.airports.length c_y8_airports), (Value.slice a_y8_classes example_1.classes.length c_y8_classes), (Value.slice a_y8_rules example_1.rules.length c_y8_rules)].toArray 31)] O) w162 (ks Ebs O) w' ∧ St ⟨w, [], []⟩ O w' Ebs ∧ k169 v_1 = some x) ?_ ?_
  ·
   rintro ρ176 w172 ⟨v_1, Ebs, hEbs, hfr175, hst174, hs173, hm⟩
   replace hm := jnE1 hk170 hm
   subst hEbs; rw [hfr175.eq]; clear hfr175
   replace f_y8_volumes := f_y8_volumes.step hst174; replace f_y8_sectors := f_y8_sectors.step hst174; replace f_y8_configs := f_y8_configs.step hst174; replace f_y8_segments := f_y8_segments.step hst174; replace f_y8_routes := f_y8_routes.step hst174; replace f_y8_airports := f_y8_airports.step hst174; replace f_y8_classes := f_y8_classes.step hst174; replace f_y8_rules := f_y8_rules.step hst174; replace f_y28 := f_y28.step hst174; replace f_y43 := f_y43.step hst174; replace f_y59 := f_y59.step hst174; replace f_y127 := f_y127.step hst174; clear hst174 hs163
   refine Wp_ret ?_
   have hz := step_all hs173
   replace f_y8_volumes := f_y8_volumes.step hz; replace f_y8_sectors := f_y8_sectors.step hz; replace f_y8_configs := f_y8_configs.step hz; replace f_y8_segments := f_y8_segments.step hz; replace f_y8_routes := f_y8_routes.step hz; replace f_y8_airports := f_y8_airports.step hz; replace f_y8_classes := f_y8_classes.step hz; replace f_y8_rules := f_y8_rules.step hz; replace f_y28 := f_y28.step hz; replace f_y43 := f_y43.step hz; replace f_y59 := f_y59.step hz; replace f_y127 := f_y127.step hz
   refine ⟨_, (show Closes [] _ _ from rfl), [(Value.bool v_1)], ⟨rfl, trivial⟩, hs173.ext, ?_⟩
   exact Vr.eq (a := vB) (x := v_1) rfl (Option.some.inj hm)
  ·
   intro K171 hK171
   have ch177 := Step.refl (ks [(some b9, Obj.cells [(Value.slice a_y8_volumes example_1.volumes.length c_y8_volumes), (Value.slice a_y8_sectors example_1.sectors.length c_y8_sectors), (Value.slice a_y8_configs example_1.configs.length c_y8_configs), (Value.slice a_y8_segments example_1.segments.length c_y8_segments), (Value.slice a_y8_routes example_1.routes.length c_y8_routes), (Value.slice a_y8_airports example_1.airports.length c_y8_airports), (Value.slice a_y8_classes example_1.classes.length c_y8_classes), (Value.slice a_y8_rules example_1.rules.length c_y8_rules)].toArray 31)] O) w162
   clear f_y28 f_y43 f_y59
   refine Wp_region ?_
   refine Rg_op rfl (op_move (v := (Value.bool good_1)) rfl ?_)
   refine Rg_op rfl (op_move (v := (Value.bool good_1)) rfl ?_)
   refine Rg_case (fun hg178 => ?_) (fun hg178 => ?_)
   ·
    replace hm := bif_t hm hg178
    refine Rg_opg rfl rfl rfl (op_move (v := (Value.int .i64 stuck_2.2.2.2)) rfl ?_)
    refine Rg_opg rfl rfl rfl (op_eql rfl rfl ?_)
    refine Rg_op rfl (op_pick_t (v := (Value.bool (decide (stuck_2.2.2.2 = 0)))) rfl rfl ?_)
    refine Rg_op rfl (op_move (v := (Value.bool (decide (stuck_2.2.2.2 = 0)))) rfl ?_)
    refine Rg_case (fun hg179 => ?_) (fun hg179 => ?_)
    ·
     replace hm := bif_t hm hg179
     refine Rg_opg rfl rfl rfl (op_move (v := (Value.bool stuck_2.2.2.1)) rfl ?_)
     refine Rg_op rfl (op_pick_t (v := (Value.bool stuck_2.2.2.1)) rfl rfl ?_)
     refine Rg_op rfl (op_move (v := (Value.bool stuck_2.2.2.1)) rfl ?_)
     refine Rg_case (fun hg180 => ?_) (fun hg180 => ?_)
     ·
      replace hm := bif_t hm hg180
      refine Rg_opg rfl rfl rfl (op_move (v := (Value.int .i64 stuck_2.1)) rfl ?_)
      refine Rg_opg rfl rfl rfl (op_eql rfl rfl ?_)
      refine Rg_op rfl (op_pick_t (v := (Value.bool (decide (stuck_2.1 = 0)))) rfl rfl ?_)
      refine Rg_op rfl (op_move (v := (Value.bool (decide (stuck_2.1 = 0)))) rfl ?_)
      refine Rg_case (fun hg181 => ?_) (fun hg181 => ?_)
      ·
       replace hm := bif_t hm hg181
       refine Rg_opg rfl rfl rfl (op_move (v := (Value.int .i64 stuck_2.2.1)) rfl ?_)
       refine Rg_opg rfl rfl rfl (op_eql rfl rfl ?_)
       refine Rg_op rfl (op_pick_t (v := (Value.bool (decide (stuck_2.2.1 = 1)))) rfl rfl ?_)
       refine Rg_op rfl (op_move (v := (Value.bool (decide (stuck_2.2.1 = 1)))) rfl ?_)
       refine Rg_case (fun hg182 => ?_) (fun hg182 => ?_)
       ·
        replace hm := bif_t hm hg182
        refine Rg_opg rfl rfl rfl (op_move (v := (Value.int .i64 reach_2.2)) rfl ?_)
        refine Rg_opg rfl rfl rfl (op_eql rfl rfl ?_)
        refine Rg_op rfl (op_pick_t (v := (Value.bool (decide (reach_2.2 = 0)))) rfl rfl ?_)
        refine Rg_op rfl (op_move (v := (Value.bool (decide (reach_2.2 = 0)))) rfl ?_)
        refine Rg_case (fun hg183 => ?_) (fun hg183 => ?_)
        ·
         replace hm := bif_t hm hg183
         refine Rg_opg rfl rfl rfl (op_move (v := (Value.slice a_y127 reach_2.1.length c_y127)) rfl ?_)
         refine Rg_opg rfl rfl rfl (op_buildSlice (cs := [(Value.int .i64 1)]) (parts := [(0, .const (.int .i64 1))]) ty39 ty3 hs163 (by decide) rfl ?_)
         intro b184 w185 hx188 p186 hs187
         replace f_y8_volumes := f_y8_volumes.step p186; replace f_y8_sectors := f_y8_sectors.step p186; replace f_y8_configs := f_y8_configs.step p186; replace f_y8_segments := f_y8_segments.step p186; replace f_y8_routes := f_y8_routes.step p186; replace f_y8_airports := f_y8_airports.step p186; replace f_y8_classes := f_y8_classes.step p186; replace f_y8_rules := f_y8_rules.step p186; replace f_y127 := f_y127.step p186; replace ch177 := ch177.trans p186; clear p186 hs163
         obtain ⟨hs191, p192, f190⟩ := St.publish (i := 0) (o := 0) (c := 1) (xs := [1]) hs187 rfl (show Els (rInt .i64) _ _ [(Value.int .i64 1)] [1] from ⟨_, _, rfl, (mk_int (show InK .i64 1 from by decide)), Els.nil⟩) (le_lit rfl) (le_lit rfl) (le_lit rfl)
         replace f_y8_volumes := f_y8_volumes.step p192; replace f_y8_sectors := f_y8_sectors.step p192; replace f_y8_configs := f_y8_configs.step p192; replace f_y8_segments := f_y8_segments.step p192; replace f_y8_routes := f_y8_routes.step p192; replace f_y8_airports := f_y8_airports.step p192; replace f_y8_classes := f_y8_classes.step p192; replace f_y8_rules := f_y8_rules.step p192; replace f_y127 := f_y127.step p192; replace ch177 := ch177.trans p192; clear p192 hs187
         replace hm := bd hm; obtain ⟨sameints_1, hv193, hm⟩ := hm
         refine Rg_opg rfl rfl rfl (op_call Try.call21 (c21_overflightref10_SameInts (a := reach_2.1) (b := [1]) hs191.ltw f_y127 f190 hv193) rfl ?_)
         rintro v194 w195 ⟨hx196, h197⟩
         have hs198 := hs191.call hx196
         have p199 := Step.ext (O := ks [(some b9, Obj.cells [(Value.slice a_y8_volumes example_1.volumes.length c_y8_volumes), (Value.slice a_y8_sectors example_1.sectors.length c_y8_sectors), (Value.slice a_y8_configs example_1.configs.length c_y8_configs), (Value.slice a_y8_segments example_1.segments.length c_y8_segments), (Value.slice a_y8_routes example_1.routes.length c_y8_routes), (Value.slice a_y8_airports example_1.airports.length c_y8_airports), (Value.slice a_y8_classes example_1.classes.length c_y8_classes), (Value.slice a_y8_rules example_1.rules.length c_y8_rules)].toArray 31)] O) hx196
         clear hx196
         replace f_y8_volumes := f_y8_volumes.step p199; replace f_y8_sectors := f_y8_sectors.step p199; replace f_y8_configs := f_y8_configs.step p199; replace f_y8_segments := f_y8_segments.step p199; replace f_y8_routes := f_y8_routes.step p199; replace f_y8_airports := f_y8_airports.step p199; replace f_y8_classes := f_y8_classes.step p199; replace f_y8_rules := f_y8_rules.step p199; replace f_y127 := f_y127.step p199; replace f190 := f190.step p199; replace ch177 := ch177.trans p199; clear p199 hs191
         obtain rfl := h197
         refine Rg_op rfl (op_pick_t (v := (Value.bool sameints_1)) rfl rfl ?_)
         refine Rg_op rfl (op_move (v := (Value.bool sameints_1)) rfl ?_)
         refine Rg_case (fun hg201 => ?_) (fun hg201 => ?_)
         ·
          replace hm := bif_t hm hg201
          refine Rg_opg rfl rfl rfl (op_move (v := (Value.bool sector_1.2)) rfl ?_)
          refine Rg_op rfl (op_pick_t (v := (Value.bool sector_1.2)) rfl rfl ?_)
          refine Rg_op rfl (op_move (v := (Value.bool sector_1.2)) rfl ?_)
          refine Rg_case (fun hg202 => ?_) (fun hg202 => ?_)
          ·
           replace hm := bif_t hm hg202
           refine Rg_opg rfl rfl rfl (op_move (v := (Value.int .i64 sector_1.1)) rfl ?_)
           refine Rg_opg rfl rfl rfl (op_eql rfl rfl ?_)
           refine Rg_op rfl (op_pick_t (v := (Value.bool (decide (sector_1.1 = 3)))) rfl rfl ?_)
           refine Rg_op rfl (op_move (v := (Value.bool (decide (sector_1.1 = 3)))) rfl ?_)
           refine Rg_case (fun hg203 => ?_) (fun hg203 => ?_)
           ·
            replace hm := bif_t hm hg203
            refine Rg_opg rfl rfl rfl (op_move (v := (Value.bool sector_2.2)) rfl ?_)
            refine Rg_opg rfl rfl rfl (op_not rfl ?_)
            refine Rg_op rfl (op_pick_t (v := (Value.bool (!sector_2.2))) rfl rfl ?_)
            refine Rg_op rfl (op_move (v := (Value.bool (!sector_2.2))) rfl ?_)
            refine Rg_case (fun hg204 => ?_) (fun hg204 => ?_)
            ·
             replace hm := bif_t hm hg204
             refine Rg_opg rfl rfl rfl (op_loadA (cs := [(Value.slice a_y8_volumes example_1.volumes.length c_y8_volumes), (Value.slice a_y8_sectors example_1.sectors.length c_y8_sectors), (Value.slice a_y8_configs example_1.configs.length c_y8_configs), (Value.slice a_y8_segments example_1.segments.length c_y8_segments), (Value.slice a_y8_routes example_1.routes.length c_y8_routes), (Value.slice a_y8_airports example_1.airports.length c_y8_airports), (Value.slice a_y8_classes example_1.classes.length c_y8_classes), (Value.slice a_y8_rules example_1.rules.length c_y8_rules)]) (vs := [(Value.slice a_y8_volumes example_1.volumes.length c_y8_volumes), (Value.slice a_y8_sectors example_1.sectors.length c_y8_sectors), (Value.slice a_y8_configs example_1.configs.length c_y8_configs), (Value.slice a_y8_segments example_1.segments.length c_y8_segments), (Value.slice a_y8_routes example_1.routes.length c_y8_routes), (Value.slice a_y8_airports example_1.airports.length c_y8_airports), (Value.slice a_y8_classes example_1.classes.length c_y8_classes), (Value.slice a_y8_rules example_1.rules.length c_y8_rules)]) (i := 0) ty31 hs198 rfl rfl rfl rfl ?_)
             replace hm := bd hm; obtain ⟨check_1, hv205, hm⟩ := hm
             refine Rg_opg rfl rfl rfl (op_call Try.call15 (c15_configs_Check (a := example_1) hs198.ltw f_y8_volumes f_y8_sectors f_y8_configs f_y8_segments f_y8_routes f_y8_airports f_y8_classes f_y8_rules hv205) rfl ?_)
             rintro v206 w207 ⟨hx208, h209⟩
             have hs210 := hs198.call hx208
             have p211 := Step.ext (O := ks [(some b9, Obj.cells [(Value.slice a_y8_volumes example_1.volumes.length c_y8_volumes), (Value.slice a_y8_sectors example_1.sectors.length c_y8_sectors), (Value.slice a_y8_configs example_1.configs.length c_y8_configs), (Value.slice a_y8_segments example_1.segments.length c_y8_segments), (Value.slice a_y8_routes example_1.routes.length c_y8_routes), (Value.slice a_y8_airports example_1.airports.length c_y8_airports), (Value.slice a_y8_classes example_1.classes.length c_y8_classes), (Value.slice a_y8_rules example_1.rules.length c_y8_rules)].toArray 31)] O) hx208
             clear hx208
             replace f_y8_volumes := f_y8_volumes.step p211; replace f_y8_sectors := f_y8_sectors.step p211; replace f_y8_configs := f_y8_configs.step p211; replace f_y8_segments := f_y8_segments.step p211; replace f_y8_routes := f_y8_routes.step p211; replace f_y8_airports := f_y8_airports.step p211; replace f_y8_classes := f_y8_classes.step p211; replace f_y8_rules := f_y8_rules.step p211; replace f_y127 := f_y127.step p211; replace f190 := f190.step p211; replace ch177 := ch177.trans p211; clear p211 hs198
             obtain ⟨rfl, r_y212⟩ := h209
             refine Rg_opg rfl rfl rfl (op_eql rfl rfl ?_)
             refine Rg_op rfl (op_pick_t (v := (Value.bool (decide (check_1 = 0)))) rfl rfl ?_)
             refine Rg_op rfl (op_move (v := (Value.bool (decide (check_1 = 0)))) rfl ?_)
             refine Rg_case (fun hg213 => ?_) (fun hg213 => ?_)
             ·
              replace hm := bif_t hm hg213
              refine Rg_opg rfl rfl rfl (op_build (vs := [(Value.slice none 0 0), (Value.slice none 0 0), (Value.slice none 0 0), (Value.slice none 0 0), (Value.slice none 0 0), (Value.slice none 0 0), (Value.slice none 0 0), (Value.slice none 0 0)]) (parts := []) ty31 pl31 rfl ?_)
              replace hm := bd hm; obtain ⟨check_2, hv214, hm⟩ := hm
              refine Rg_opg rfl rfl rfl (op_call Try.call15 (c15_configs_Check (a := (⟨([] : List XVolume), ([] : List XSector), ([] : List XConfig), ([] : List XSegment), ([] : List XRoute), ([] : List XAirport), ([] : List XClass), ([] : List XRule)⟩ : XAirspace)) hs210.ltw SlR.nil_ SlR.nil_ SlR.nil_ SlR.nil_ SlR.nil_ SlR.nil_ SlR.nil_ SlR.nil_ hv214) rfl ?_)
              rintro v215 w216 ⟨hx217, h218⟩
              have hs219 := hs210.call hx217
              have p220 := Step.ext (O := ks [(some b9, Obj.cells [(Value.slice a_y8_volumes example_1.volumes.length c_y8_volumes), (Value.slice a_y8_sectors example_1.sectors.length c_y8_sectors), (Value.slice a_y8_configs example_1.configs.length c_y8_configs), (Value.slice a_y8_segments example_1.segments.length c_y8_segments), (Value.slice a_y8_routes example_1.routes.length c_y8_routes), (Value.slice a_y8_airports example_1.airports.length c_y8_airports), (Value.slice a_y8_classes example_1.classes.length c_y8_classes), (Value.slice a_y8_rules example_1.rules.length c_y8_rules)].toArray 31)] O) hx217
              clear hx217
              replace f_y8_volumes := f_y8_volumes.step p220; replace f_y8_sectors := f_y8_sectors.step p220; replace f_y8_configs := f_y8_configs.step p220; replace f_y8_segments := f_y8_segments.step p220; replace f_y8_routes := f_y8_routes.step p220; replace f_y8_airports := f_y8_airports.step p220; replace f_y8_classes := f_y8_classes.step p220; replace f_y8_rules := f_y8_rules.step p220; replace f_y127 := f_y127.step p220; replace f190 := f190.step p220; replace ch177 := ch177.trans p220; clear p220 hs210
              obtain ⟨rfl, r_y221⟩ := h218
              refine Rg_opg rfl rfl rfl (op_eql rfl rfl ?_)
              refine Rg_op rfl (op_pick_t (v := (Value.bool (decide (check_2 = 100)))) rfl rfl ?_)
              refine Rg_op rfl (op_move (v := (Value.bool (decide (check_2 = 100)))) rfl ?_)
              refine Rg_case (fun hg222 => ?_) (fun hg222 => ?_)
              ·
               replace hm := bif_t hm hg222
               refine Rg_opg rfl rfl rfl (op_loadA (cs := [(Value.slice a_y8_volumes example_1.volumes.length c_y8_volumes), (Value.slice a_y8_sectors example_1.sectors.length c_y8_sectors), (Value.slice a_y8_configs example_1.configs.length c_y8_configs), (Value.slice a_y8_segments example_1.segments.length c_y8_segments), (Value.slice a_y8_routes example_1.routes.length c_y8_routes), (Value.slice a_y8_airports example_1.airports.length c_y8_airports), (Value.slice a_y8_classes example_1.classes.length c_y8_classes), (Value.slice a_y8_rules example_1.rules.length c_y8_rules)]) (vs := [(Value.slice a_y8_volumes example_1.volumes.length c_y8_volumes), (Value.slice a_y8_sectors example_1.sectors.length c_y8_sectors), (Value.slice a_y8_configs example_1.configs.length c_y8_configs), (Value.slice a_y8_segments example_1.segments.length c_y8_segments), (Value.slice a_y8_routes example_1.routes.length c_y8_routes), (Value.slice a_y8_airports example_1.airports.length c_y8_airports), (Value.slice a_y8_classes example_1.classes.length c_y8_classes), (Value.slice a_y8_rules example_1.rules.length c_y8_rules)]) (i := 0) ty31 hs219 rfl rfl rfl rfl ?_)
               replace hm := bd hm; obtain ⟨step_1, hv223, hm⟩ := hm
               refine Rg_opg rfl rfl rfl (op_call Try.call19 (c19_configs_Step (a := example_1) (from_ := 0) (to := 2) hs219.ltw f_y8_volumes f_y8_sectors f_y8_configs f_y8_segments f_y8_routes f_y8_airports f_y8_classes f_y8_rules (show InK .i64 0 from by decide) (show InK .i64 2 from by decide) hv223) rfl ?_)
               rintro v224 w225 ⟨hx226, h227⟩
               have hs228 := hs219.call hx226
               have p229 := Step.ext (O := ks [(some b9, Obj.cells [(Value.slice a_y8_volumes example_1.volumes.length c_y8_volumes), (Value.slice a_y8_sectors example_1.sectors.length c_y8_sectors), (Value.slice a_y8_configs example_1.configs.length c_y8_configs), (Value.slice a_y8_segments example_1.segments.length c_y8_segments), (Value.slice a_y8_routes example_1.routes.length c_y8_routes), (Value.slice a_y8_airports example_1.airports.length c_y8_airports), (Value.slice a_y8_classes example_1.classes.length c_y8_classes), (Value.slice a_y8_rules example_1.rules.length c_y8_rules)].toArray 31)] O) hx226
               clear hx226
               replace f_y8_volumes := f_y8_volumes.step p229; replace f_y8_sectors := f_y8_sectors.step p229; replace f_y8_configs := f_y8_configs.step p229; replace f_y8_segments := f_y8_segments.step p229; replace f_y8_routes := f_y8_routes.step p229; replace f_y8_airports := f_y8_airports.step p229; replace f_y8_classes := f_y8_classes.step p229; replace f_y8_rules := f_y8_rules.step p229; replace f_y127 := f_y127.step p229; replace f190 := f190.step p229; replace ch177 := ch177.trans p229; clear p229 hs219
               obtain rfl := h227
               refine Rg_op rfl (op_pick_t (v := (Value.bool step_1)) rfl rfl ?_)
               refine Rg_op rfl (op_move (v := (Value.bool step_1)) rfl ?_)
               refine Rg_case (fun hg231 => ?_) (fun hg231 => ?_)
               ·
                replace hm := bif_t hm hg231
                refine Rg_opg rfl rfl rfl (op_loadA (cs := [(Value.slice a_y8_volumes example_1.volumes.length c_y8_volumes), (Value.slice a_y8_sectors example_1.sectors.length c_y8_sectors), (Value.slice a_y8_configs example_1.configs.length c_y8_configs), (Value.slice a_y8_segments example_1.segments.length c_y8_segments), (Value.slice a_y8_routes example_1.routes.length c_y8_routes), (Value.slice a_y8_airports example_1.airports.length c_y8_airports), (Value.slice a_y8_classes example_1.classes.length c_y8_classes), (Value.slice a_y8_rules example_1.rules.length c_y8_rules)]) (vs := [(Value.slice a_y8_volumes example_1.volumes.length c_y8_volumes), (Value.slice a_y8_sectors example_1.sectors.length c_y8_sectors), (Value.slice a_y8_configs example_1.configs.length c_y8_configs), (Value.slice a_y8_segments example_1.segments.length c_y8_segments), (Value.slice a_y8_routes example_1.routes.length c_y8_routes), (Value.slice a_y8_airports example_1.airports.length c_y8_airports), (Value.slice a_y8_classes example_1.classes.length c_y8_classes), (Value.slice a_y8_rules example_1.rules.length c_y8_rules)]) (i := 0) ty31 hs228 rfl rfl rfl rfl ?_)
                replace hm := bd hm; obtain ⟨step_2, hv232, hm⟩ := hm
                refine Rg_opg rfl rfl rfl (op_call Try.call19 (c19_configs_Step (a := example_1) (from_ := 0) (to := 1) hs228.ltw f_y8_volumes f_y8_sectors f_y8_configs f_y8_segments f_y8_routes f_y8_airports f_y8_classes f_y8_rules (show InK .i64 0 from by decide) (show InK .i64 1 from by decide) hv232) rfl ?_)
                rintro v233 w234 ⟨hx235, h236⟩
                have hs237 := hs228.call hx235
                have p238 := Step.ext (O := ks [(some b9, Obj.cells [(Value.slice a_y8_volumes example_1.volumes.length c_y8_volumes), (Value.slice a_y8_sectors example_1.sectors.length c_y8_sectors), (Value.slice a_y8_configs example_1.configs.length c_y8_configs), (Value.slice a_y8_segments example_1.segments.length c_y8_segments), (Value.slice a_y8_routes example_1.routes.length c_y8_routes), (Value.slice a_y8_airports example_1.airports.length c_y8_airports), (Value.slice a_y8_classes example_1.classes.length c_y8_classes), (Value.slice a_y8_rules example_1.rules.length c_y8_rules)].toArray 31)] O) hx235
                clear hx235
                replace f_y8_volumes := f_y8_volumes.step p238; replace f_y8_sectors := f_y8_sectors.step p238; replace f_y8_configs := f_y8_configs.step p238; replace f_y8_segments := f_y8_segments.step p238; replace f_y8_routes := f_y8_routes.step p238; replace f_y8_airports := f_y8_airports.step p238; replace f_y8_classes := f_y8_classes.step p238; replace f_y8_rules := f_y8_rules.step p238; replace f_y127 := f_y127.step p238; replace f190 := f190.step p238; replace ch177 := ch177.trans p238; clear p238 hs228
                obtain rfl := h236
                refine Rg_opg rfl rfl rfl (op_not rfl ?_)
                refine Rg_op rfl (op_pick_t (v := (Value.bool (!step_2))) rfl rfl ?_)
                refine Rg_op rfl (op_move (v := (Value.bool (!step_2))) rfl ?_)
                refine Rg_case (fun hg240 => ?_) (fun hg240 => ?_)
                ·
                 replace hm := bif_t hm hg240
                 refine Rg_opg rfl rfl rfl (op_loadA (cs := [(Value.slice a_y8_volumes example_1.volumes.length c_y8_volumes), (Value.slice a_y8_sectors example_1.sectors.length c_y8_sectors), (Value.slice a_y8_configs example_1.configs.length c_y8_configs), (Value.slice a_y8_segments example_1.segments.length c_y8_segments), (Value.slice a_y8_routes example_1.routes.length c_y8_routes), (Value.slice a_y8_airports example_1.airports.length c_y8_airports), (Value.slice a_y8_classes example_1.classes.length c_y8_classes), (Value.slice a_y8_rules example_1.rules.length c_y8_rules)]) (vs := [(Value.slice a_y8_volumes example_1.volumes.length c_y8_volumes), (Value.slice a_y8_sectors example_1.sectors.length c_y8_sectors), (Value.slice a_y8_configs example_1.configs.length c_y8_configs), (Value.slice a_y8_segments example_1.segments.length c_y8_segments), (Value.slice a_y8_routes example_1.routes.length c_y8_routes), (Value.slice a_y8_airports example_1.airports.length c_y8_airports), (Value.slice a_y8_classes example_1.classes.length c_y8_classes), (Value.slice a_y8_rules example_1.rules.length c_y8_rules)]) (i := 0) ty31 hs237 rfl rfl rfl rfl ?_)
                 replace hm := bd hm; obtain ⟨step_3, hv241, hm⟩ := hm
                 refine Rg_opg rfl rfl rfl (op_call Try.call19 (c19_configs_Step (a := example_1) (from_ := 0) (to := 0) hs237.ltw f_y8_volumes f_y8_sectors f_y8_configs f_y8_segments f_y8_routes f_y8_airports f_y8_classes f_y8_rules (show InK .i64 0 from by decide) (show InK .i64 0 from by decide) hv241) rfl ?_)
                 rintro v242 w243 ⟨hx244, h245⟩
                 have hs246 := hs237.call hx244
                 have p247 := Step.ext (O := ks [(some b9, Obj.cells [(Value.slice a_y8_volumes example_1.volumes.length c_y8_volumes), (Value.slice a_y8_sectors example_1.sectors.length c_y8_sectors), (Value.slice a_y8_configs example_1.configs.length c_y8_configs), (Value.slice a_y8_segments example_1.segments.length c_y8_segments), (Value.slice a_y8_routes example_1.routes.length c_y8_routes), (Value.slice a_y8_airports example_1.airports.length c_y8_airports), (Value.slice a_y8_classes example_1.classes.length c_y8_classes), (Value.slice a_y8_rules example_1.rules.length c_y8_rules)].toArray 31)] O) hx244
                 clear hx244
                 replace f_y8_volumes := f_y8_volumes.step p247; replace f_y8_sectors := f_y8_sectors.step p247; replace f_y8_configs := f_y8_configs.step p247; replace f_y8_segments := f_y8_segments.step p247; replace f_y8_routes := f_y8_routes.step p247; replace f_y8_airports := f_y8_airports.step p247; replace f_y8_classes := f_y8_classes.step p247; replace f_y8_rules := f_y8_rules.step p247; replace f_y127 := f_y127.step p247; replace f190 := f190.step p247; replace ch177 := ch177.trans p247; clear p247 hs237
                 obtain rfl := h245
                 refine Rg_opg rfl rfl rfl (op_not rfl ?_)
                 refine Rg_op rfl (op_pick_t (v := (Value.bool (!step_3))) rfl rfl ?_)
                 refine Rg_op rfl (op_assign (v := (Value.bool (!step_3))) rfl ?_)
                 refine Rg_nil ?_
                 exact hK171 _ _ ⟨(!step_3), _, rfl, ⟨(by repeat (first | with_reducible exact Out.refl _ _ | refine Out.upd ?_ rfl | refine Out.updL ?_ rfl | refine Out.mix' ?_ rfl | exact Out.refl _ _)), rfl, rfl, trivial⟩, ch177, hs246, hm⟩
                ·
                 replace hm := bif_f hm hg240
                 iterate 3 refine Rg_opx rfl (asB_ne rfl rfl) rfl ?_
                 refine Rg_op rfl (op_pick_f (v := (Value.bool false)) rfl rfl ?_)
                 refine Rg_op rfl (op_assign (v := (Value.bool false)) rfl ?_)
                 refine Rg_nil ?_
                 exact hK171 _ _ ⟨false, _, rfl, ⟨(by repeat (first | with_reducible exact Out.refl _ _ | refine Out.upd ?_ rfl | refine Out.updL ?_ rfl | refine Out.mix' ?_ rfl | exact Out.refl _ _)), rfl, rfl, trivial⟩, ch177, hs237, hm⟩
               ·
                replace hm := bif_f hm hg231
                iterate 3 refine Rg_opx rfl (asB_ne rfl rfl) rfl ?_
                refine Rg_op rfl (op_pick_f (v := (Value.bool false)) rfl rfl ?_)
                refine Rg_op rfl (op_move (v := (Value.bool false)) rfl ?_)
                iterate 3 refine Rg_opx rfl (asB_ne rfl rfl) rfl ?_
                refine Rg_op rfl (op_pick_f (v := (Value.bool false)) rfl rfl ?_)
                refine Rg_op rfl (op_assign (v := (Value.bool false)) rfl ?_)
                refine Rg_nil ?_
                exact hK171 _ _ ⟨false, _, rfl, ⟨(by repeat (first | with_reducible exact Out.refl _ _ | refine Out.upd ?_ rfl | refine Out.updL ?_ rfl | refine Out.mix' ?_ rfl | exact Out.refl _ _)), rfl, rfl, trivial⟩, ch177, hs228, hm⟩
              ·
               replace hm := bif_f hm hg222
               iterate 2 refine Rg_opx rfl (asB_ne rfl rfl) rfl ?_
               refine Rg_op rfl (op_pick_f (v := (Value.bool false)) rfl rfl ?_)
               refine Rg_op rfl (op_move (v := (Value.bool false)) rfl ?_)
               iterate 3 refine Rg_opx rfl (asB_ne rfl rfl) rfl ?_
               refine Rg_op rfl (op_pick_f (v := (Value.bool false)) rfl rfl ?_)
               refine Rg_op rfl (op_move (v := (Value.bool false)) rfl ?_)
               iterate 3 refine Rg_opx rfl (asB_ne rfl rfl) rfl ?_
               refine Rg_op rfl (op_pick_f (v := (Value.bool false)) rfl rfl ?_)
               refine Rg_op rfl (op_assign (v := (Value.bool false)) rfl ?_)
               refine Rg_nil ?_
               exact hK171 _ _ ⟨false, _, rfl, ⟨(by repeat (first | with_reducible exact Out.refl _ _ | refine Out.upd ?_ rfl | refine Out.updL ?_ rfl | refine Out.mix' ?_ rfl | exact Out.refl _ _)), rfl, rfl, trivial⟩, ch177, hs219, hm⟩
             ·
              replace hm := bif_f hm hg213
              iterate 3 refine Rg_opx rfl (asB_ne rfl rfl) rfl ?_
              refine Rg_op rfl (op_pick_f (v := (Value.bool false)) rfl rfl ?_)
              refine Rg_op rfl (op_move (v := (Value.bool false)) rfl ?_)
              iterate 2 refine Rg_opx rfl (asB_ne rfl rfl) rfl ?_
              refine Rg_op rfl (op_pick_f (v := (Value.bool false)) rfl rfl ?_)
              refine Rg_op rfl (op_move (v := (Value.bool false)) rfl ?_)
              iterate 3 refine Rg_opx rfl (asB_ne rfl rfl) rfl ?_
              refine Rg_op rfl (op_pick_f (v := (Value.bool false)) rfl rfl ?_)
              refine Rg_op rfl (op_move (v := (Value.bool false)) rfl ?_)
              iterate 3 refine Rg_opx rfl (asB_ne rfl rfl) rfl ?_
              refine Rg_op rfl (op_pick_f (v := (Value.bool false)) rfl rfl ?_)
              refine Rg_op rfl (op_assign (v := (Value.bool false)) rfl ?_)
              refine Rg_nil ?_
              exact hK171 _ _ ⟨false, _, rfl, ⟨(by repeat (first | with_reducible exact Out.refl _ _ | refine Out.upd ?_ rfl | refine Out.updL ?_ rfl | refine Out.mix' ?_ rfl | exact Out.refl _ _)), rfl, rfl, trivial⟩, ch177, hs210, hm⟩
            ·
             replace hm := bif_f hm hg204
             iterate 3 refine Rg_opx rfl (asB_ne rfl rfl) rfl ?_
             refine Rg_op rfl (op_pick_f (v := (Value.bool false)) rfl rfl ?_)
             refine Rg_op rfl (op_move (v := (Value.bool false)) rfl ?_)
             iterate 3 refine Rg_opx rfl (asB_ne rfl rfl) rfl ?_
             refine Rg_op rfl (op_pick_f (v := (Value.bool false)) rfl rfl ?_)
             refine Rg_op rfl (op_move (v := (Value.bool false)) rfl ?_)
             iterate 2 refine Rg_opx rfl (asB_ne rfl rfl) rfl ?_
             refine Rg_op rfl (op_pick_f (v := (Value.bool false)) rfl rfl ?_)
             refine Rg_op rfl (op_move (v := (Value.bool false)) rfl ?_)
             iterate 3 refine Rg_opx rfl (asB_ne rfl rfl) rfl ?_
             refine Rg_op rfl (op_pick_f (v := (Value.bool false)) rfl rfl ?_)
             refine Rg_op rfl (op_move (v := (Value.bool false)) rfl ?_)
             iterate 3 refine Rg_opx rfl (asB_ne rfl rfl) rfl ?_
             refine Rg_op rfl (op_pick_f (v := (Value.bool false)) rfl rfl ?_)
             refine Rg_op rfl (op_assign (v := (Value.bool false)) rfl ?_)
             refine Rg_nil ?_
             exact hK171 _ _ ⟨false, _, rfl, ⟨(by repeat (first | with_reducible exact Out.refl _ _ | refine Out.upd ?_ rfl | refine Out.updL ?_ rfl | refine Out.mix' ?_ rfl | exact Out.refl _ _)), rfl, rfl, trivial⟩, ch177, hs198, hm⟩
           ·
            replace hm := bif_f hm hg203
            iterate 2 refine Rg_opx rfl (asB_ne rfl rfl) rfl ?_
            refine Rg_op rfl (op_pick_f (v := (Value.bool false)) rfl rfl ?_)
            refine Rg_op rfl (op_move (v := (Value.bool false)) rfl ?_)
            iterate 3 refine Rg_opx rfl (asB_ne rfl rfl) rfl ?_
            refine Rg_op rfl (op_pick_f (v := (Value.bool false)) rfl rfl ?_)
            refine Rg_op rfl (op_move (v := (Value.bool false)) rfl ?_)
            iterate 3 refine Rg_opx rfl (asB_ne rfl rfl) rfl ?_
            refine Rg_op rfl (op_pick_f (v := (Value.bool false)) rfl rfl ?_)
            refine Rg_op rfl (op_move (v := (Value.bool false)) rfl ?_)
            iterate 2 refine Rg_opx rfl (asB_ne rfl rfl) rfl ?_
            refine Rg_op rfl (op_pick_f (v := (Value.bool false)) rfl rfl ?_)
            refine Rg_op rfl (op_move (v := (Value.bool false)) rfl ?_)
            iterate 3 refine Rg_opx rfl (asB_ne rfl rfl) rfl ?_
            refine Rg_op rfl (op_pick_f (v := (Value.bool false)) rfl rfl ?_)
            refine Rg_op rfl (op_move (v := (Value.bool false)) rfl ?_)
            iterate 3 refine Rg_opx rfl (asB_ne rfl rfl) rfl ?_
            refine Rg_op rfl (op_pick_f (v := (Value.bool false)) rfl rfl ?_)
            refine Rg_op rfl (op_assign (v := (Value.bool false)) rfl ?_)
            refine Rg_nil ?_
            exact hK171 _ _ ⟨false, _, rfl, ⟨(by repeat (first | with_reducible exact Out.refl _ _ | refine Out.upd ?_ rfl | refine Out.updL ?_ rfl | refine Out.mix' ?_ rfl | exact Out.refl _ _)), rfl, rfl, trivial⟩, ch177, hs198, hm⟩
          ·
           replace hm := bif_f hm hg202
           iterate 2 refine Rg_opx rfl (asB_ne rfl rfl) rfl ?_
           refine Rg_op rfl (op_pick_f (v := (Value.bool false)) rfl rfl ?_)
           refine Rg_op rfl (op_move (v := (Value.bool false)) rfl ?_)
           iterate 2 refine Rg_opx rfl (asB_ne rfl rfl) rfl ?_
           refine Rg_op rfl (op_pick_f (v := (Value.bool false)) rfl rfl ?_)
           refine Rg_op rfl (op_move (v := (Value.bool false)) rfl ?_)
           iterate 3 refine Rg_opx rfl (asB_ne rfl rfl) rfl ?_
           refine Rg_op rfl (op_pick_f (v := (Value.bool false)) rfl rfl ?_)
           refine Rg_op rfl (op_move (v := (Value.bool false)) rfl ?_)
           iterate 3 refine Rg_opx rfl (asB_ne rfl rfl) rfl ?_
           refine Rg_op rfl (op_pick_f (v := (Value.bool false)) rfl rfl ?_)
           refine Rg_op rfl (op_move (v := (Value.bool false)) rfl ?_)
           iterate 2 refine Rg_opx rfl (asB_ne rfl rfl) rfl ?_
           refine Rg_op rfl (op_pick_f (v := (Value.bool false)) rfl rfl ?_)
           refine Rg_op rfl (op_move (v := (Value.bool false)) rfl ?_)
           iterate 3 refine Rg_opx rfl (asB_ne rfl rfl) rfl ?_
           refine Rg_op rfl (op_pick_f (v := (Value.bool false)) rfl rfl ?_)
           refine Rg_op rfl (op_move (v := (Value.bool false)) rfl ?_)
           iterate 3 refine Rg_opx rfl (asB_ne rfl rfl) rfl ?_
           refine Rg_op rfl (op_pick_f (v := (Value.bool false)) rfl rfl ?_)
           refine Rg_op rfl (op_assign (v := (Value.bool false)) rfl ?_)
           refine Rg_nil ?_
           exact hK171 _ _ ⟨false, _, rfl, ⟨(by repeat (first | with_reducible exact Out.refl _ _ | refine Out.upd ?_ rfl | refine Out.updL ?_ rfl | refine Out.mix' ?_ rfl | exact Out.refl _ _)), rfl, rfl, trivial⟩, ch177, hs198, hm⟩
         ·
          replace hm := bif_f hm hg201
          refine Rg_opx rfl (asB_ne rfl rfl) rfl ?_
          refine Rg_op rfl (op_pick_f (v := (Value.bool false)) rfl rfl ?_)
          refine Rg_op rfl (op_move (v := (Value.bool false)) rfl ?_)
          iterate 2 refine Rg_opx rfl (asB_ne rfl rfl) rfl ?_
          refine Rg_op rfl (op_pick_f (v := (Value.bool false)) rfl rfl ?_)
          refine Rg_op rfl (op_move (v := (Value.bool false)) rfl ?_)
          iterate 2 refine Rg_opx rfl (asB_ne rfl rfl) rfl ?_
          refine Rg_op rfl (op_pick_f (v := (Value.bool false)) rfl rfl ?_)
          refine Rg_op rfl (op_move (v := (Value.bool false)) rfl ?_)
          iterate 3 refine Rg_opx rfl (asB_ne rfl rfl) rfl ?_
          refine Rg_op rfl (op_pick_f (v := (Value.bool false)) rfl rfl ?_)
          refine Rg_op rfl (op_move (v := (Value.bool false)) rfl ?_)
          iterate 3 refine Rg_opx rfl (asB_ne rfl rfl) rfl ?_
          refine Rg_op rfl (op_pick_f (v := (Value.bool false)) rfl rfl ?_)
          refine Rg_op rfl (op_move (v := (Value.bool false)) rfl ?_)
          iterate 2 refine Rg_opx rfl (asB_ne rfl rfl) rfl ?_
          refine Rg_op rfl (op_pick_f (v := (Value.bool false)) rfl rfl ?_)
          refine Rg_op rfl (op_move (v := (Value.bool false)) rfl ?_)
          iterate 3 refine Rg_opx rfl (asB_ne rfl rfl) rfl ?_
          refine Rg_op rfl (op_pick_f (v := (Value.bool false)) rfl rfl ?_)
          refine Rg_op rfl (op_move (v := (Value.bool false)) rfl ?_)
          iterate 3 refine Rg_opx rfl (asB_ne rfl rfl) rfl ?_
          refine Rg_op rfl (op_pick_f (v := (Value.bool false)) rfl rfl ?_)
          refine Rg_op rfl (op_assign (v := (Value.bool false)) rfl ?_)
          refine Rg_nil ?_
          exact hK171 _ _ ⟨false, _, rfl, ⟨(by repeat (first | with_reducible exact Out.refl _ _ | refine Out.upd ?_ rfl | refine Out.updL ?_ rfl | refine Out.mix' ?_ rfl | exact Out.refl _ _)), rfl, rfl, trivial⟩, ch177, hs198, hm⟩
        ·
         replace hm := bif_f hm hg183
         iterate 3 refine Rg_opx rfl (asB_ne rfl rfl) rfl ?_
         refine Rg_op rfl (op_pick_f (v := (Value.bool false)) rfl rfl ?_)
         refine Rg_op rfl (op_move (v := (Value.bool false)) rfl ?_)
         refine Rg_opx rfl (asB_ne rfl rfl) rfl ?_
         refine Rg_op rfl (op_pick_f (v := (Value.bool false)) rfl rfl ?_)
         refine Rg_op rfl (op_move (v := (Value.bool false)) rfl ?_)
         iterate 2 refine Rg_opx rfl (asB_ne rfl rfl) rfl ?_
         refine Rg_op rfl (op_pick_f (v := (Value.bool false)) rfl rfl ?_)
         refine Rg_op rfl (op_move (v := (Value.bool false)) rfl ?_)
         iterate 2 refine Rg_opx rfl (asB_ne rfl rfl) rfl ?_
         refine Rg_op rfl (op_pick_f (v := (Value.bool false)) rfl rfl ?_)
         refine Rg_op rfl (op_move (v := (Value.bool false)) rfl ?_)
         iterate 3 refine Rg_opx rfl (asB_ne rfl rfl) rfl ?_
         refine Rg_op rfl (op_pick_f (v := (Value.bool false)) rfl rfl ?_)
         refine Rg_op rfl (op_move (v := (Value.bool false)) rfl ?_)
         iterate 3 refine Rg_opx rfl (asB_ne rfl rfl) rfl ?_
         refine Rg_op rfl (op_pick_f (v := (Value.bool false)) rfl rfl ?_)
         refine Rg_op rfl (op_move (v := (Value.bool false)) rfl ?_)
         iterate 2 refine Rg_opx rfl (asB_ne rfl rfl) rfl ?_
         refine Rg_op rfl (op_pick_f (v := (Value.bool false)) rfl rfl ?_)
         refine Rg_op rfl (op_move (v := (Value.bool false)) rfl ?_)
         iterate 3 refine Rg_opx rfl (asB_ne rfl rfl) rfl ?_
         refine Rg_op rfl (op_pick_f (v := (Value.bool false)) rfl rfl ?_)
         refine Rg_op rfl (op_move (v := (Value.bool false)) rfl ?_)
         iterate 3 refine Rg_opx rfl (asB_ne rfl rfl) rfl ?_
         refine Rg_op rfl (op_pick_f (v := (Value.bool false)) rfl rfl ?_)
         refine Rg_op rfl (op_assign (v := (Value.bool false)) rfl ?_)
         refine Rg_nil ?_
         exact hK171 _ _ ⟨false, _, rfl, ⟨(by repeat (first | with_reducible exact Out.refl _ _ | refine Out.upd ?_ rfl | refine Out.updL ?_ rfl | refine Out.mix' ?_ rfl | exact Out.refl _ _)), rfl, rfl, trivial⟩, ch177, hs163, hm⟩
       ·
        replace hm := bif_f hm hg182
        iterate 2 refine Rg_opx rfl (asB_ne rfl rfl) rfl ?_
        refine Rg_op rfl (op_pick_f (v := (Value.bool false)) rfl rfl ?_)
        refine Rg_op rfl (op_move (v := (Value.bool false)) rfl ?_)
        iterate 3 refine Rg_opx rfl (asB_ne rfl rfl) rfl ?_
        refine Rg_op rfl (op_pick_f (v := (Value.bool false)) rfl rfl ?_)
        refine Rg_op rfl (op_move (v := (Value.bool false)) rfl ?_)
        refine Rg_opx rfl (asB_ne rfl rfl) rfl ?_
        refine Rg_op rfl (op_pick_f (v := (Value.bool false)) rfl rfl ?_)
        refine Rg_op rfl (op_move (v := (Value.bool false)) rfl ?_)
        iterate 2 refine Rg_opx rfl (asB_ne rfl rfl) rfl ?_
        refine Rg_op rfl (op_pick_f (v := (Value.bool false)) rfl rfl ?_)
        refine Rg_op rfl (op_move (v := (Value.bool false)) rfl ?_)
        iterate 2 refine Rg_opx rfl (asB_ne rfl rfl) rfl ?_
        refine Rg_op rfl (op_pick_f (v := (Value.bool false)) rfl rfl ?_)
        refine Rg_op rfl (op_move (v := (Value.bool false)) rfl ?_)
        iterate 3 refine Rg_opx rfl (asB_ne rfl rfl) rfl ?_
        refine Rg_op rfl (op_pick_f (v := (Value.bool false)) rfl rfl ?_)
        refine Rg_op rfl (op_move (v := (Value.bool false)) rfl ?_)
        iterate 3 refine Rg_opx rfl (asB_ne rfl rfl) rfl ?_
        refine Rg_op rfl (op_pick_f (v := (Value.bool false)) rfl rfl ?_)
        refine Rg_op rfl (op_move (v := (Value.bool false)) rfl ?_)
        iterate 2 refine Rg_opx rfl (asB_ne rfl rfl) rfl ?_
        refine Rg_op rfl (op_pick_f (v := (Value.bool false)) rfl rfl ?_)
        refine Rg_op rfl (op_move (v := (Value.bool false)) rfl ?_)
        iterate 3 refine Rg_opx rfl (asB_ne rfl rfl) rfl ?_
        refine Rg_op rfl (op_pick_f (v := (Value.bool false)) rfl rfl ?_)
        refine Rg_op rfl (op_move (v := (Value.bool false)) rfl ?_)
        iterate 3 refine Rg_opx rfl (asB_ne rfl rfl) rfl ?_
        refine Rg_op rfl (op_pick_f (v := (Value.bool false)) rfl rfl ?_)
        refine Rg_op rfl (op_assign (v := (Value.bool false)) rfl ?_)
        refine Rg_nil ?_
        exact hK171 _ _ ⟨false, _, rfl, ⟨(by repeat (first | with_reducible exact Out.refl _ _ | refine Out.upd ?_ rfl | refine Out.updL ?_ rfl | refine Out.mix' ?_ rfl | exact Out.refl _ _)), rfl, rfl, trivial⟩, ch177, hs163, hm⟩
      ·
       replace hm := bif_f hm hg181
       iterate 2 refine Rg_opx rfl (asB_ne rfl rfl) rfl ?_
       refine Rg_op rfl (op_pick_f (v := (Value.bool false)) rfl rfl ?_)
       refine Rg_op rfl (op_move (v := (Value.bool false)) rfl ?_)
       iterate 2 refine Rg_opx rfl (asB_ne rfl rfl) rfl ?_
       refine Rg_op rfl (op_pick_f (v := (Value.bool false)) rfl rfl ?_)
       refine Rg_op rfl (op_move (v := (Value.bool false)) rfl ?_)
       iterate 3 refine Rg_opx rfl (asB_ne rfl rfl) rfl ?_
       refine Rg_op rfl (op_pick_f (v := (Value.bool false)) rfl rfl ?_)
       refine Rg_op rfl (op_move (v := (Value.bool false)) rfl ?_)
       refine Rg_opx rfl (asB_ne rfl rfl) rfl ?_
       refine Rg_op rfl (op_pick_f (v := (Value.bool false)) rfl rfl ?_)
       refine Rg_op rfl (op_move (v := (Value.bool false)) rfl ?_)
       iterate 2 refine Rg_opx rfl (asB_ne rfl rfl) rfl ?_
       refine Rg_op rfl (op_pick_f (v := (Value.bool false)) rfl rfl ?_)
       refine Rg_op rfl (op_move (v := (Value.bool false)) rfl ?_)
       iterate 2 refine Rg_opx rfl (asB_ne rfl rfl) rfl ?_
       refine Rg_op rfl (op_pick_f (v := (Value.bool false)) rfl rfl ?_)
       refine Rg_op rfl (op_move (v := (Value.bool false)) rfl ?_)
       iterate 3 refine Rg_opx rfl (asB_ne rfl rfl) rfl ?_
       refine Rg_op rfl (op_pick_f (v := (Value.bool false)) rfl rfl ?_)
       refine Rg_op rfl (op_move (v := (Value.bool false)) rfl ?_)
       iterate 3 refine Rg_opx rfl (asB_ne rfl rfl) rfl ?_
       refine Rg_op rfl (op_pick_f (v := (Value.bool false)) rfl rfl ?_)
       refine Rg_op rfl (op_move (v := (Value.bool false)) rfl ?_)
       iterate 2 refine Rg_opx rfl (asB_ne rfl rfl) rfl ?_
       refine Rg_op rfl (op_pick_f (v := (Value.bool false)) rfl rfl ?_)
       refine Rg_op rfl (op_move (v := (Value.bool false)) rfl ?_)
       iterate 3 refine Rg_opx rfl (asB_ne rfl rfl) rfl ?_
       refine Rg_op rfl (op_pick_f (v := (Value.bool false)) rfl rfl ?_)
       refine Rg_op rfl (op_move (v := (Value.bool false)) rfl ?_)
       iterate 3 refine Rg_opx rfl (asB_ne rfl rfl) rfl ?_
       refine Rg_op rfl (op_pick_f (v := (Value.bool false)) rfl rfl ?_)
       refine Rg_op rfl (op_assign (v := (Value.bool false)) rfl ?_)
       refine Rg_nil ?_
       exact hK171 _ _ ⟨false, _, rfl, ⟨(by repeat (first | with_reducible exact Out.refl _ _ | refine Out.upd ?_ rfl | refine Out.updL ?_ rfl | refine Out.mix' ?_ rfl | exact Out.refl _ _)), rfl, rfl, trivial⟩, ch177, hs163, hm⟩
     ·
      replace hm := bif_f hm hg180
      iterate 2 refine Rg_opx rfl (asB_ne rfl rfl) rfl ?_
      refine Rg_op rfl (op_pick_f (v := (Value.bool false)) rfl rfl ?_)
      refine Rg_op rfl (op_move (v := (Value.bool false)) rfl ?_)
      iterate 2 refine Rg_opx rfl (asB_ne rfl rfl) rfl ?_
      refine Rg_op rfl (op_pick_f (v := (Value.bool false)) rfl rfl ?_)
      refine Rg_op rfl (op_move (v := (Value.bool false)) rfl ?_)
      iterate 2 refine Rg_opx rfl (asB_ne rfl rfl) rfl ?_
      refine Rg_op rfl (op_pick_f (v := (Value.bool false)) rfl rfl ?_)
      refine Rg_op rfl (op_move (v := (Value.bool false)) rfl ?_)
      iterate 3 refine Rg_opx rfl (asB_ne rfl rfl) rfl ?_
      refine Rg_op rfl (op_pick_f (v := (Value.bool false)) rfl rfl ?_)
      refine Rg_op rfl (op_move (v := (Value.bool false)) rfl ?_)
      refine Rg_opx rfl (asB_ne rfl rfl) rfl ?_
      refine Rg_op rfl (op_pick_f (v := (Value.bool false)) rfl rfl ?_)
      refine Rg_op rfl (op_move (v := (Value.bool false)) rfl ?_)
      iterate 2 refine Rg_opx rfl (asB_ne rfl rfl) rfl ?_
      refine Rg_op rfl (op_pick_f (v := (Value.bool false)) rfl rfl ?_)
      refine Rg_op rfl (op_move (v := (Value.bool false)) rfl ?_)
      iterate 2 refine Rg_opx rfl (asB_ne rfl rfl) rfl ?_
      refine Rg_op rfl (op_pick_f (v := (Value.bool false)) rfl rfl ?_)
      refine Rg_op rfl (op_move (v := (Value.bool false)) rfl ?_)
      iterate 3 refine Rg_opx rfl (asB_ne rfl rfl) rfl ?_
      refine Rg_op rfl (op_pick_f (v := (Value.bool false)) rfl rfl ?_)
      refine Rg_op rfl (op_move (v := (Value.bool false)) rfl ?_)
      iterate 3 refine Rg_opx rfl (asB_ne rfl rfl) rfl ?_
      refine Rg_op rfl (op_pick_f (v := (Value.bool false)) rfl rfl ?_)
      refine Rg_op rfl (op_move (v := (Value.bool false)) rfl ?_)
      iterate 2 refine Rg_opx rfl (asB_ne rfl rfl) rfl ?_
      refine Rg_op rfl (op_pick_f (v := (Value.bool false)) rfl rfl ?_)
      refine Rg_op rfl (op_move (v := (Value.bool false)) rfl ?_)
      iterate 3 refine Rg_opx rfl (asB_ne rfl rfl) rfl ?_
      refine Rg_op rfl (op_pick_f (v := (Value.bool false)) rfl rfl ?_)
      refine Rg_op rfl (op_move (v := (Value.bool false)) rfl ?_)
      iterate 3 refine Rg_opx rfl (asB_ne rfl rfl) rfl ?_
      refine Rg_op rfl (op_pick_f (v := (Value.bool false)) rfl rfl ?_)
      refine Rg_op rfl (op_assign (v := (Value.bool false)) rfl ?_)
      refine Rg_nil ?_
      exact hK171 _ _ ⟨false, _, rfl, ⟨(by repeat (first | with_reducible exact Out.refl _ _ | refine Out.upd ?_ rfl | refine Out.updL ?_ rfl | refine Out.mix' ?_ rfl | exact Out.refl _ _)), rfl, rfl, trivial⟩, ch177, hs163, hm⟩
    ·
     replace hm := bif_f hm hg179
     refine Rg_opx rfl (asB_ne rfl rfl) rfl ?_
     refine Rg_op rfl (op_pick_f (v := (Value.bool false)) rfl rfl ?_)
     refine Rg_op rfl (op_move (v := (Value.bool false)) rfl ?_)
     iterate 2 refine Rg_opx rfl (asB_ne rfl rfl) rfl ?_
     refine Rg_op rfl (op_pick_f (v := (Value.bool false)) rfl rfl ?_)
     refine Rg_op rfl (op_move (v := (Value.bool false)) rfl ?_)
     iterate 2 refine Rg_opx rfl (asB_ne rfl rfl) rfl ?_
     refine Rg_op rfl (op_pick_f (v := (Value.bool false)) rfl rfl ?_)
     refine Rg_op rfl (op_move (v := (Value.bool false)) rfl ?_)
     iterate 2 refine Rg_opx rfl (asB_ne rfl rfl) rfl ?_
     refine Rg_op rfl (op_pick_f (v := (Value.bool false)) rfl rfl ?_)
     refine Rg_op rfl (op_move (v := (Value.bool false)) rfl ?_)
     iterate 3 refine Rg_opx rfl (asB_ne rfl rfl) rfl ?_
     refine Rg_op rfl (op_pick_f (v := (Value.bool false)) rfl rfl ?_)
     refine Rg_op rfl (op_move (v := (Value.bool false)) rfl ?_)
     refine Rg_opx rfl (asB_ne rfl rfl) rfl ?_
     refine Rg_op rfl (op_pick_f (v := (Value.bool false)) rfl rfl ?_)
     refine Rg_op rfl (op_move (v := (Value.bool false)) rfl ?_)
     iterate 2 refine Rg_opx rfl (asB_ne rfl rfl) rfl ?_
     refine Rg_op rfl (op_pick_f (v := (Value.bool false)) rfl rfl ?_)
     refine Rg_op rfl (op_move (v := (Value.bool false)) rfl ?_)
     iterate 2 refine Rg_opx rfl (asB_ne rfl rfl) rfl ?_
     refine Rg_op rfl (op_pick_f (v := (Value.bool false)) rfl rfl ?_)
     refine Rg_op rfl (op_move (v := (Value.bool false)) rfl ?_)
     iterate 3 refine Rg_opx rfl (asB_ne rfl rfl) rfl ?_
     refine Rg_op rfl (op_pick_f (v := (Value.bool false)) rfl rfl ?_)
     refine Rg_op rfl (op_move (v := (Value.bool false)) rfl ?_)
     iterate 3 refine Rg_opx rfl (asB_ne rfl rfl) rfl ?_
     refine Rg_op rfl (op_pick_f (v := (Value.bool false)) rfl rfl ?_)
     refine Rg_op rfl (op_move (v := (Value.bool false)) rfl ?_)
     iterate 2 refine Rg_opx rfl (asB_ne rfl rfl) rfl ?_
     refine Rg_op rfl (op_pick_f (v := (Value.bool false)) rfl rfl ?_)
     refine Rg_op rfl (op_move (v := (Value.bool false)) rfl ?_)
     iterate 3 refine Rg_opx rfl (asB_ne rfl rfl) rfl ?_
     refine Rg_op rfl (op_pick_f (v := (Value.bool false)) rfl rfl ?_)
     refine Rg_op rfl (op_move (v := (Value.bool false)) rfl ?_)
     iterate 3 refine Rg_opx rfl (asB_ne rfl rfl) rfl ?_
     refine Rg_op rfl (op_pick_f (v := (Value.bool false)) rfl rfl ?_)
     refine Rg_op rfl (op_assign (v := (Value.bool false)) rfl ?_)
     refine Rg_nil ?_
     exact hK171 _ _ ⟨false, _, rfl, ⟨(by repeat (first | with_reducible exact Out.refl _ _ | refine Out.upd ?_ rfl | refine Out.updL ?_ rfl | refine Out.mix' ?_ rfl | exact Out.refl _ _)), rfl, rfl, trivial⟩, ch177, hs163, hm⟩
   ·
    replace hm := bif_f hm hg178
    iterate 2 refine Rg_opx rfl (asB_ne rfl rfl) rfl ?_
    refine Rg_op rfl (op_pick_f (v := (Value.bool false)) rfl rfl ?_)
    refine Rg_op rfl (op_move (v := (Value.bool false)) rfl ?_)
    refine Rg_opx rfl (asB_ne rfl rfl) rfl ?_
    refine Rg_op rfl (op_pick_f (v := (Value.bool false)) rfl rfl ?_)
    refine Rg_op rfl (op_move (v := (Value.bool false)) rfl ?_)
    iterate 2 refine Rg_opx rfl (asB_ne rfl rfl) rfl ?_
    refine Rg_op rfl (op_pick_f (v := (Value.bool false)) rfl rfl ?_)
    refine Rg_op rfl (op_move (v := (Value.bool false)) rfl ?_)
    iterate 2 refine Rg_opx rfl (asB_ne rfl rfl) rfl ?_
    refine Rg_op rfl (op_pick_f (v := (Value.bool false)) rfl rfl ?_)
    refine Rg_op rfl (op_move (v := (Value.bool false)) rfl ?_)
    iterate 2 refine Rg_opx rfl (asB_ne rfl rfl) rfl ?_
    refine Rg_op rfl (op_pick_f (v := (Value.bool false)) rfl rfl ?_)
    refine Rg_op rfl (op_move (v := (Value.bool false)) rfl ?_)
    iterate 3 refine Rg_opx rfl (asB_ne rfl rfl) rfl ?_
    refine Rg_op rfl (op_pick_f (v := (Value.bool false)) rfl rfl ?_)
    refine Rg_op rfl (op_move (v := (Value.bool false)) rfl ?_)
    refine Rg_opx rfl (asB_ne rfl rfl) rfl ?_
    refine Rg_op rfl (op_pick_f (v := (Value.bool false)) rfl rfl ?_)
    refine Rg_op rfl (op_move (v := (Value.bool false)) rfl ?_)
    iterate 2 refine Rg_opx rfl (asB_ne rfl rfl) rfl ?_
    refine Rg_op rfl (op_pick_f (v := (Value.bool false)) rfl rfl ?_)
    refine Rg_op rfl (op_move (v := (Value.bool false)) rfl ?_)
    iterate 2 refine Rg_opx rfl (asB_ne rfl rfl) rfl ?_
    refine Rg_op rfl (op_pick_f (v := (Value.bool false)) rfl rfl ?_)
    refine Rg_op rfl (op_move (v := (Value.bool false)) rfl ?_)
    iterate 3 refine Rg_opx rfl (asB_ne rfl rfl) rfl ?_
    refine Rg_op rfl (op_pick_f (v := (Value.bool false)) rfl rfl ?_)
    refine Rg_op rfl (op_move (v := (Value.bool false)) rfl ?_)
    iterate 3 refine Rg_opx rfl (asB_ne rfl rfl) rfl ?_
    refine Rg_op rfl (op_pick_f (v := (Value.bool false)) rfl rfl ?_)
    refine Rg_op rfl (op_move (v := (Value.bool false)) rfl ?_)
    iterate 2 refine Rg_opx rfl (asB_ne rfl rfl) rfl ?_
    refine Rg_op rfl (op_pick_f (v := (Value.bool false)) rfl rfl ?_)
    refine Rg_op rfl (op_move (v := (Value.bool false)) rfl ?_)
    iterate 3 refine Rg_opx rfl (asB_ne rfl rfl) rfl ?_
    refine Rg_op rfl (op_pick_f (v := (Value.bool false)) rfl rfl ?_)
    refine Rg_op rfl (op_move (v := (Value.bool false)) rfl ?_)
    iterate 3 refine Rg_opx rfl (asB_ne rfl rfl) rfl ?_
    refine Rg_op rfl (op_pick_f (v := (Value.bool false)) rfl rfl ?_)
    refine Rg_op rfl (op_assign (v := (Value.bool false)) rfl ?_)
    refine Rg_nil ?_
    exact hK171 _ _ ⟨false, _, rfl, ⟨(by repeat (first | with_reducible exact Out.refl _ _ | refine Out.upd ?_ rfl | refine Out.updL ?_ rfl | refine Out.mix' ?_ rfl | exact Out.refl _ _)), rfl, rfl, trivial⟩, ch177, hs163, hm⟩
 ·
  intro K161 hK161
  have ch249 := Step.refl (ks [(some b9, Obj.cells [(Value.slice a_y8_volumes example_1.volumes.length c_y8_volumes), (Value.slice a_y8_sectors example_1.sectors.length c_y8_sectors), (Value.slice a_y8_configs example_1.configs.length c_y8_configs), (Value.slice a_y8_segments example_1.segments.length c_y8_segments), (Value.slice a_y8_routes example_1.routes.length c_y8_routes), (Value.slice a_y8_airports example_1.airports.length c_y8_airports), (Value.slice a_y8_classes example_1.classes.length c_y8_classes), (Value.slice a_y8_rules example_1.rules.length c_y8_rules)].toArray 31)] O) w146
  refine Wp_region ?_
  refine Rg_op rfl (op_move (v := (Value.int .i64 reach_1.2)) rfl ?_)
  refine Rg_op rfl (op_eql rfl rfl ?_)
  refine Rg_op rfl (op_move (v := (Value.bool (decide (reach_1.2 = 0)))) rfl ?_)
  refine Rg_case (fun hg250 => ?_) (fun hg250 => ?_)
  ·
   replace hm := bif_t hm hg250
   refine Rg_opg rfl rfl rfl (op_move (v := (Value.slice a_y28 reach_1.1.length c_y28)) rfl ?_)
   refine Rg_opg rfl rfl rfl (op_buildSlice (cs := [(Value.int .i64 0), (Value.int .i64 1), (Value.int .i64 2)]) (parts := [(0, .const (.int .i64 0)), (1, .const (.int .i64 1)), (2, .const (.int .i64 2))]) ty39 ty3 hs149 (by decide) rfl ?_)
   intro b251 w252 hx255 p253 hs254
   replace f_y8_volumes := f_y8_volumes.step p253; replace f_y8_sectors := f_y8_sectors.step p253; replace f_y8_configs := f_y8_configs.step p253; replace f_y8_segments := f_y8_segments.step p253; replace f_y8_routes := f_y8_routes.step p253; replace f_y8_airports := f_y8_airports.step p253; replace f_y8_classes := f_y8_classes.step p253; replace f_y8_rules := f_y8_rules.step p253; replace f_y28 := f_y28.step p253; replace f_y43 := f_y43.step p253; replace f_y59 := f_y59.step p253; replace f_y127 := f_y127.step p253; replace ch249 := ch249.trans p253; clear p253 hs149
   obtain ⟨hs258, p259, f257⟩ := St.publish (i := 0) (o := 0) (c := 3) (xs := [0, 1, 2]) hs254 rfl (show Els (rInt .i64) _ _ [(Value.int .i64 0), (Value.int .i64 1), (Value.int .i64 2)] [0, 1, 2] from ⟨_, _, rfl, (mk_int (show InK .i64 0 from by decide)), ⟨_, _, rfl, (mk_int (show InK .i64 1 from by decide)), ⟨_, _, rfl, (mk_int (show InK .i64 2 from by decide)), Els.nil⟩⟩⟩) (le_lit rfl) (le_lit rfl) (le_lit rfl)
   replace f_y8_volumes := f_y8_volumes.step p259; replace f_y8_sectors := f_y8_sectors.step p259; replace f_y8_configs := f_y8_configs.step p259; replace f_y8_segments := f_y8_segments.step p259; replace f_y8_routes := f_y8_routes.step p259; replace f_y8_airports := f_y8_airports.step p259; replace f_y8_classes := f_y8_classes.step p259; replace f_y8_rules := f_y8_rules.step p259; replace f_y28 := f_y28.step p259; replace f_y43 := f_y43.step p259; replace f_y59 := f_y59.step p259; replace f_y127 := f_y127.step p259; replace ch249 := ch249.trans p259; clear p259 hs254
   replace hm := bd hm; obtain ⟨sameints_2, hv260, hm⟩ := hm
   refine Rg_opg rfl rfl rfl (op_call Try.call21 (c21_overflightref10_SameInts (a := reach_1.1) (b := [0, 1, 2]) hs258.ltw f_y28 f257 hv260) rfl ?_)
   rintro v261 w262 ⟨hx263, h264⟩
   have hs265 := hs258.call hx263
   have p266 := Step.ext (O := ks [(some b9, Obj.cells [(Value.slice a_y8_volumes example_1.volumes.length c_y8_volumes), (Value.slice a_y8_sectors example_1.sectors.length c_y8_sectors), (Value.slice a_y8_configs example_1.configs.length c_y8_configs), (Value.slice a_y8_segments example_1.segments.length c_y8_segments), (Value.slice a_y8_routes example_1.routes.length c_y8_routes), (Value.slice a_y8_airports example_1.airports.length c_y8_airports), (Value.slice a_y8_classes example_1.classes.length c_y8_classes), (Value.slice a_y8_rules example_1.rules.length c_y8_rules)].toArray 31)] O) hx263
   clear hx263
   replace f_y8_volumes := f_y8_volumes.step p266; replace f_y8_sectors := f_y8_sectors.step p266; replace f_y8_configs := f_y8_configs.step p266; replace f_y8_segments := f_y8_segments.step p266; replace f_y8_routes := f_y8_routes.step p266; replace f_y8_airports := f_y8_airports.step p266; replace f_y8_classes := f_y8_classes.step p266; replace f_y8_rules := f_y8_rules.step p266; replace f_y28 := f_y28.step p266; replace f_y43 := f_y43.step p266; replace f_y59 := f_y59.step p266; replace f_y127 := f_y127.step p266; replace f257 := f257.step p266; replace ch249 := ch249.trans p266; clear p266 hs258
   obtain rfl := h264
   refine Rg_op rfl (op_pick_t (v := (Value.bool sameints_2)) rfl rfl ?_)
   refine Rg_op rfl (op_move (v := (Value.bool sameints_2)) rfl ?_)
   refine Rg_case (fun hg268 => ?_) (fun hg268 => ?_)
   ·
    replace hm := bif_t hm hg268
    refine Rg_opg rfl rfl rfl (op_move (v := (Value.int .i64 path_1.2.2)) rfl ?_)
    refine Rg_opg rfl rfl rfl (op_eql rfl rfl ?_)
    refine Rg_op rfl (op_pick_t (v := (Value.bool (decide (path_1.2.2 = 0)))) rfl rfl ?_)
    refine Rg_op rfl (op_move (v := (Value.bool (decide (path_1.2.2 = 0)))) rfl ?_)
    refine Rg_case (fun hg269 => ?_) (fun hg269 => ?_)
    ·
     replace hm := bif_t hm hg269
     refine Rg_opg rfl rfl rfl (op_move (v := (Value.bool path_1.2.1)) rfl ?_)
     refine Rg_op rfl (op_pick_t (v := (Value.bool path_1.2.1)) rfl rfl ?_)
     refine Rg_op rfl (op_move (v := (Value.bool path_1.2.1)) rfl ?_)
     refine Rg_case (fun hg270 => ?_) (fun hg270 => ?_)
     ·
      replace hm := bif_t hm hg270
      refine Rg_opg rfl rfl rfl (op_move (v := (Value.slice a_y43 path_1.1.length c_y43)) rfl ?_)
      refine Rg_opg rfl rfl rfl (op_buildSlice (cs := [(Value.int .i64 0), (Value.int .i64 2), (Value.int .i64 1)]) (parts := [(0, .const (.int .i64 0)), (1, .const (.int .i64 2)), (2, .const (.int .i64 1))]) ty39 ty3 hs265 (by decide) rfl ?_)
      intro b271 w272 hx275 p273 hs274
      replace f_y8_volumes := f_y8_volumes.step p273; replace f_y8_sectors := f_y8_sectors.step p273; replace f_y8_configs := f_y8_configs.step p273; replace f_y8_segments := f_y8_segments.step p273; replace f_y8_routes := f_y8_routes.step p273; replace f_y8_airports := f_y8_airports.step p273; replace f_y8_classes := f_y8_classes.step p273; replace f_y8_rules := f_y8_rules.step p273; replace f_y28 := f_y28.step p273; replace f_y43 := f_y43.step p273; replace f_y59 := f_y59.step p273; replace f_y127 := f_y127.step p273; replace f257 := f257.step p273; replace ch249 := ch249.trans p273; clear p273 hs265
      obtain ⟨hs278, p279, f277⟩ := St.publish (i := 0) (o := 0) (c := 3) (xs := [0, 2, 1]) hs274 rfl (show Els (rInt .i64) _ _ [(Value.int .i64 0), (Value.int .i64 2), (Value.int .i64 1)] [0, 2, 1] from ⟨_, _, rfl, (mk_int (show InK .i64 0 from by decide)), ⟨_, _, rfl, (mk_int (show InK .i64 2 from by decide)), ⟨_, _, rfl, (mk_int (show InK .i64 1 from by decide)), Els.nil⟩⟩⟩) (le_lit rfl) (le_lit rfl) (le_lit rfl)
      replace f_y8_volumes := f_y8_volumes.step p279; replace f_y8_sectors := f_y8_sectors.step p279; replace f_y8_configs := f_y8_configs.step p279; replace f_y8_segments := f_y8_segments.step p279; replace f_y8_routes := f_y8_routes.step p279; replace f_y8_airports := f_y8_airports.step p279; replace f_y8_classes := f_y8_classes.step p279; replace f_y8_rules := f_y8_rules.step p279; replace f_y28 := f_y28.step p279; replace f_y43 := f_y43.step p279; replace f_y59 := f_y59.step p279; replace f_y127 := f_y127.step p279; replace f257 := f257.step p279; replace ch249 := ch249.trans p279; clear p279 hs274
      replace hm := bd hm; obtain ⟨sameints_3, hv280, hm⟩ := hm
      refine Rg_opg rfl rfl rfl (op_call Try.call21 (c21_overflightref10_SameInts (a := path_1.1) (b := [0, 2, 1]) hs278.ltw f_y43 f277 hv280) rfl ?_)
      rintro v281 w282 ⟨hx283, h284⟩
      have hs285 := hs278.call hx283
      have p286 := Step.ext (O := ks [(some b9, Obj.cells [(Value.slice a_y8_volumes example_1.volumes.length c_y8_volumes), (Value.slice a_y8_sectors example_1.sectors.length c_y8_sectors), (Value.slice a_y8_configs example_1.configs.length c_y8_configs), (Value.slice a_y8_segments example_1.segments.length c_y8_segments), (Value.slice a_y8_routes example_1.routes.length c_y8_routes), (Value.slice a_y8_airports example_1.airports.length c_y8_airports), (Value.slice a_y8_classes example_1.classes.length c_y8_classes), (Value.slice a_y8_rules example_1.rules.length c_y8_rules)].toArray 31)] O) hx283
      clear hx283
      replace f_y8_volumes := f_y8_volumes.step p286; replace f_y8_sectors := f_y8_sectors.step p286; replace f_y8_configs := f_y8_configs.step p286; replace f_y8_segments := f_y8_segments.step p286; replace f_y8_routes := f_y8_routes.step p286; replace f_y8_airports := f_y8_airports.step p286; replace f_y8_classes := f_y8_classes.step p286; replace f_y8_rules := f_y8_rules.step p286; replace f_y28 := f_y28.step p286; replace f_y43 := f_y43.step p286; replace f_y59 := f_y59.step p286; replace f_y127 := f_y127.step p286; replace f257 := f257.step p286; replace f277 := f277.step p286; replace ch249 := ch249.trans p286; clear p286 hs278
      obtain rfl := h284
      refine Rg_op rfl (op_pick_t (v := (Value.bool sameints_3)) rfl rfl ?_)
      refine Rg_op rfl (op_move (v := (Value.bool sameints_3)) rfl ?_)
      refine Rg_case (fun hg288 => ?_) (fun hg288 => ?_)
      ·
       replace hm := bif_t hm hg288
       refine Rg_opg rfl rfl rfl (op_move (v := (Value.int .i64 path_2.2.2)) rfl ?_)
       refine Rg_opg rfl rfl rfl (op_eql rfl rfl ?_)
       refine Rg_op rfl (op_pick_t (v := (Value.bool (decide (path_2.2.2 = 0)))) rfl rfl ?_)
       refine Rg_op rfl (op_move (v := (Value.bool (decide (path_2.2.2 = 0)))) rfl ?_)
       refine Rg_case (fun hg289 => ?_) (fun hg289 => ?_)
       ·
        replace hm := bif_t hm hg289
        refine Rg_opg rfl rfl rfl (op_move (v := (Value.bool path_2.2.1)) rfl ?_)
        refine Rg_op rfl (op_pick_t (v := (Value.bool path_2.2.1)) rfl rfl ?_)
        refine Rg_op rfl (op_move (v := (Value.bool path_2.2.1)) rfl ?_)
        refine Rg_case (fun hg290 => ?_) (fun hg290 => ?_)
        ·
         replace hm := bif_t hm hg290
         refine Rg_opg rfl rfl rfl (op_move (v := (Value.slice a_y59 path_2.1.length c_y59)) rfl ?_)
         refine Rg_opg rfl rfl rfl (op_buildSlice (cs := [(Value.int .i64 1)]) (parts := [(0, .const (.int .i64 1))]) ty39 ty3 hs285 (by decide) rfl ?_)
         intro b291 w292 hx295 p293 hs294
         replace f_y8_volumes := f_y8_volumes.step p293; replace f_y8_sectors := f_y8_sectors.step p293; replace f_y8_configs := f_y8_configs.step p293; replace f_y8_segments := f_y8_segments.step p293; replace f_y8_routes := f_y8_routes.step p293; replace f_y8_airports := f_y8_airports.step p293; replace f_y8_classes := f_y8_classes.step p293; replace f_y8_rules := f_y8_rules.step p293; replace f_y28 := f_y28.step p293; replace f_y43 := f_y43.step p293; replace f_y59 := f_y59.step p293; replace f_y127 := f_y127.step p293; replace f257 := f257.step p293; replace f277 := f277.step p293; replace ch249 := ch249.trans p293; clear p293 hs285
         obtain ⟨hs298, p299, f297⟩ := St.publish (i := 0) (o := 0) (c := 1) (xs := [1]) hs294 rfl (show Els (rInt .i64) _ _ [(Value.int .i64 1)] [1] from ⟨_, _, rfl, (mk_int (show InK .i64 1 from by decide)), Els.nil⟩) (le_lit rfl) (le_lit rfl) (le_lit rfl)
         replace f_y8_volumes := f_y8_volumes.step p299; replace f_y8_sectors := f_y8_sectors.step p299; replace f_y8_configs := f_y8_configs.step p299; replace f_y8_segments := f_y8_segments.step p299; replace f_y8_routes := f_y8_routes.step p299; replace f_y8_airports := f_y8_airports.step p299; replace f_y8_classes := f_y8_classes.step p299; replace f_y8_rules := f_y8_rules.step p299; replace f_y28 := f_y28.step p299; replace f_y43 := f_y43.step p299; replace f_y59 := f_y59.step p299; replace f_y127 := f_y127.step p299; replace f257 := f257.step p299; replace f277 := f277.step p299; replace ch249 := ch249.trans p299; clear p299 hs294
         replace hm := bd hm; obtain ⟨sameints_4, hv300, hm⟩ := hm
         refine Rg_opg rfl rfl rfl (op_call Try.call21 (c21_overflightref10_SameInts (a := path_2.1) (b := [1]) hs298.ltw f_y59 f297 hv300) rfl ?_)
         rintro v301 w302 ⟨hx303, h304⟩
         have hs305 := hs298.call hx303
         have p306 := Step.ext (O := ks [(some b9, Obj.cells [(Value.slice a_y8_volumes example_1.volumes.length c_y8_volumes), (Value.slice a_y8_sectors example_1.sectors.length c_y8_sectors), (Value.slice a_y8_configs example_1.configs.length c_y8_configs), (Value.slice a_y8_segments example_1.segments.length c_y8_segments), (Value.slice a_y8_routes example_1.routes.length c_y8_routes), (Value.slice a_y8_airports example_1.airports.length c_y8_airports), (Value.slice a_y8_classes example_1.classes.length c_y8_classes), (Value.slice a_y8_rules example_1.rules.length c_y8_rules)].toArray 31)] O) hx303
         clear hx303
         replace f_y8_volumes := f_y8_volumes.step p306; replace f_y8_sectors := f_y8_sectors.step p306; replace f_y8_configs := f_y8_configs.step p306; replace f_y8_segments := f_y8_segments.step p306; replace f_y8_routes := f_y8_routes.step p306; replace f_y8_airports := f_y8_airports.step p306; replace f_y8_classes := f_y8_classes.step p306; replace f_y8_rules := f_y8_rules.step p306; replace f_y28 := f_y28.step p306; replace f_y43 := f_y43.step p306; replace f_y59 := f_y59.step p306; replace f_y127 := f_y127.step p306; replace f257 := f257.step p306; replace f277 := f277.step p306; replace f297 := f297.step p306; replace ch249 := ch249.trans p306; clear p306 hs298
         obtain rfl := h304
         refine Rg_op rfl (op_pick_t (v := (Value.bool sameints_4)) rfl rfl ?_)
         refine Rg_op rfl (op_move (v := (Value.bool sameints_4)) rfl ?_)
         refine Rg_case (fun hg308 => ?_) (fun hg308 => ?_)
         ·
          replace hm := bif_t hm hg308
          refine Rg_opg rfl rfl rfl (op_move (v := (Value.int .i64 stuck_1.2.2.2)) rfl ?_)
          refine Rg_opg rfl rfl rfl (op_eql rfl rfl ?_)
          refine Rg_op rfl (op_pick_t (v := (Value.bool (decide (stuck_1.2.2.2 = 0)))) rfl rfl ?_)
          refine Rg_op rfl (op_move (v := (Value.bool (decide (stuck_1.2.2.2 = 0)))) rfl ?_)
          refine Rg_case (fun hg309 => ?_) (fun hg309 => ?_)
          ·
           replace hm := bif_t hm hg309
           refine Rg_opg rfl rfl rfl (op_move (v := (Value.bool stuck_1.2.2.1)) rfl ?_)
           refine Rg_opg rfl rfl rfl (op_not rfl ?_)
           refine Rg_op rfl (op_pick_t (v := (Value.bool (!stuck_1.2.2.1))) rfl rfl ?_)
           refine Rg_op rfl (op_move (v := (Value.bool (!stuck_1.2.2.1))) rfl ?_)
           refine Rg_case (fun hg310 => ?_) (fun hg310 => ?_)
           ·
            replace hm := bif_t hm hg310
            refine Rg_opg rfl rfl rfl (op_move (v := (Value.int .i64 stuck_1.1)) rfl ?_)
            refine Rg_opg rfl rfl rfl (op_eql rfl rfl ?_)
            refine Rg_op rfl (op_pick_t (v := (Value.bool (decide (stuck_1.1 = 0)))) rfl rfl ?_)
            refine Rg_op rfl (op_move (v := (Value.bool (decide (stuck_1.1 = 0)))) rfl ?_)
            refine Rg_case (fun hg311 => ?_) (fun hg311 => ?_)
            ·
             replace hm := bif_t hm hg311
             refine Rg_opg rfl rfl rfl (op_move (v := (Value.int .i64 stuck_1.2.1)) rfl ?_)
             refine Rg_opg rfl rfl rfl (op_eql rfl rfl ?_)
             refine Rg_op rfl (op_pick_t (v := (Value.bool (decide (stuck_1.2.1 = 0)))) rfl rfl ?_)
             refine Rg_op rfl (op_assign (v := (Value.bool (decide (stuck_1.2.1 = 0)))) rfl ?_)
             refine Rg_nil ?_
             exact hK161 _ _ ⟨(decide (stuck_1.2.1 = 0)), _, rfl, ⟨(by repeat (first | with_reducible exact Out.refl _ _ | refine Out.upd ?_ rfl | refine Out.updL ?_ rfl | refine Out.mix' ?_ rfl | exact Out.refl _ _)), rfl, rfl, trivial⟩, ch249, hs305, hm⟩
            ·
             replace hm := bif_f hm hg311
             iterate 2 refine Rg_opx rfl (asB_ne rfl rfl) rfl ?_
             refine Rg_op rfl (op_pick_f (v := (Value.bool false)) rfl rfl ?_)
             refine Rg_op rfl (op_assign (v := (Value.bool false)) rfl ?_)
             refine Rg_nil ?_
             exact hK161 _ _ ⟨false, _, rfl, ⟨(by repeat (first | with_reducible exact Out.refl _ _ | refine Out.upd ?_ rfl | refine Out.updL ?_ rfl | refine Out.mix' ?_ rfl | exact Out.refl _ _)), rfl, rfl, trivial⟩, ch249, hs305, hm⟩
           ·
            replace hm := bif_f hm hg310
            iterate 2 refine Rg_opx rfl (asB_ne rfl rfl) rfl ?_
            refine Rg_op rfl (op_pick_f (v := (Value.bool false)) rfl rfl ?_)
            refine Rg_op rfl (op_move (v := (Value.bool false)) rfl ?_)
            iterate 2 refine Rg_opx rfl (asB_ne rfl rfl) rfl ?_
            refine Rg_op rfl (op_pick_f (v := (Value.bool false)) rfl rfl ?_)
            refine Rg_op rfl (op_assign (v := (Value.bool false)) rfl ?_)
            refine Rg_nil ?_
            exact hK161 _ _ ⟨false, _, rfl, ⟨(by repeat (first | with_reducible exact Out.refl _ _ | refine Out.upd ?_ rfl | refine Out.updL ?_ rfl | refine Out.mix' ?_ rfl | exact Out.refl _ _)), rfl, rfl, trivial⟩, ch249, hs305, hm⟩
          ·
           replace hm := bif_f hm hg309
           iterate 2 refine Rg_opx rfl (asB_ne rfl rfl) rfl ?_
           refine Rg_op rfl (op_pick_f (v := (Value.bool false)) rfl rfl ?_)
           refine Rg_op rfl (op_move (v := (Value.bool false)) rfl ?_)
           iterate 2 refine Rg_opx rfl (asB_ne rfl rfl) rfl ?_
           refine Rg_op rfl (op_pick_f (v := (Value.bool false)) rfl rfl ?_)
           refine Rg_op rfl (op_move (v := (Value.bool false)) rfl ?_)
           iterate 2 refine Rg_opx rfl (asB_ne rfl rfl) rfl ?_
           refine Rg_op rfl (op_pick_f (v := (Value.bool false)) rfl rfl ?_)
           refine Rg_op rfl (op_assign (v := (Value.bool false)) rfl ?_)
           refine Rg_nil ?_
           exact hK161 _ _ ⟨false, _, rfl, ⟨(by repeat (first | with_reducible exact Out.refl _ _ | refine Out.upd ?_ rfl | refine Out.updL ?_ rfl | refine Out.mix' ?_ rfl | exact Out.refl _ _)), rfl, rfl, trivial⟩, ch249, hs305, hm⟩
         ·
          replace hm := bif_f hm hg308
          iterate 2 refine Rg_opx rfl (asB_ne rfl rfl) rfl ?_
          refine Rg_op rfl (op_pick_f (v := (Value.bool false)) rfl rfl ?_)
          refine Rg_op rfl (op_move (v := (Value.bool false)) rfl ?_)
          iterate 2 refine Rg_opx rfl (asB_ne rfl rfl) rfl ?_
          refine Rg_op rfl (op_pick_f (v := (Value.bool false)) rfl rfl ?_)
          refine Rg_op rfl (op_move (v := (Value.bool false)) rfl ?_)
          iterate 2 refine Rg_opx rfl (asB_ne rfl rfl) rfl ?_
          refine Rg_op rfl (op_pick_f (v := (Value.bool false)) rfl rfl ?_)
          refine Rg_op rfl (op_move (v := (Value.bool false)) rfl ?_)
          iterate 2 refine Rg_opx rfl (asB_ne rfl rfl) rfl ?_
          refine Rg_op rfl (op_pick_f (v := (Value.bool false)) rfl rfl ?_)
          refine Rg_op rfl (op_assign (v := (Value.bool false)) rfl ?_)
          refine Rg_nil ?_
          exact hK161 _ _ ⟨false, _, rfl, ⟨(by repeat (first | with_reducible exact Out.refl _ _ | refine Out.upd ?_ rfl | refine Out.updL ?_ rfl | refine Out.mix' ?_ rfl | exact Out.refl _ _)), rfl, rfl, trivial⟩, ch249, hs305, hm⟩
        ·
         replace hm := bif_f hm hg290
         iterate 3 refine Rg_opx rfl (asB_ne rfl rfl) rfl ?_
         refine Rg_op rfl (op_pick_f (v := (Value.bool false)) rfl rfl ?_)
         refine Rg_op rfl (op_move (v := (Value.bool false)) rfl ?_)
         iterate 2 refine Rg_opx rfl (asB_ne rfl rfl) rfl ?_
         refine Rg_op rfl (op_pick_f (v := (Value.bool false)) rfl rfl ?_)
         refine Rg_op rfl (op_move (v := (Value.bool false)) rfl ?_)
         iterate 2 refine Rg_opx rfl (asB_ne rfl rfl) rfl ?_
         refine Rg_op rfl (op_pick_f (v := (Value.bool false)) rfl rfl ?_)
         refine Rg_op rfl (op_move (v := (Value.bool false)) rfl ?_)
         iterate 2 refine Rg_opx rfl (asB_ne rfl rfl) rfl ?_
         refine Rg_op rfl (op_pick_f (v := (Value.bool false)) rfl rfl ?_)
         refine Rg_op rfl (op_move (v := (Value.bool false)) rfl ?_)
         iterate 2 refine Rg_opx rfl (asB_ne rfl rfl) rfl ?_
         refine Rg_op rfl (op_pick_f (v := (Value.bool false)) rfl rfl ?_)
         refine Rg_op rfl (op_assign (v := (Value.bool false)) rfl ?_)
         refine Rg_nil ?_
         exact hK161 _ _ ⟨false, _, rfl, ⟨(by repeat (first | with_reducible exact Out.refl _ _ | refine Out.upd ?_ rfl | refine Out.updL ?_ rfl | refine Out.mix' ?_ rfl | exact Out.refl _ _)), rfl, rfl, trivial⟩, ch249, hs285, hm⟩
       ·
        replace hm := bif_f hm hg289
        refine Rg_opx rfl (asB_ne rfl rfl) rfl ?_
        refine Rg_op rfl (op_pick_f (v := (Value.bool false)) rfl rfl ?_)
        refine Rg_op rfl (op_move (v := (Value.bool false)) rfl ?_)
        iterate 3 refine Rg_opx rfl (asB_ne rfl rfl) rfl ?_
        refine Rg_op rfl (op_pick_f (v := (Value.bool false)) rfl rfl ?_)
        refine Rg_op rfl (op_move (v := (Value.bool false)) rfl ?_)
        iterate 2 refine Rg_opx rfl (asB_ne rfl rfl) rfl ?_
        refine Rg_op rfl (op_pick_f (v := (Value.bool false)) rfl rfl ?_)
        refine Rg_op rfl (op_move (v := (Value.bool false)) rfl ?_)
        iterate 2 refine Rg_opx rfl (asB_ne rfl rfl) rfl ?_
        refine Rg_op rfl (op_pick_f (v := (Value.bool false)) rfl rfl ?_)
        refine Rg_op rfl (op_move (v := (Value.bool false)) rfl ?_)
        iterate 2 refine Rg_opx rfl (asB_ne rfl rfl) rfl ?_
        refine Rg_op rfl (op_pick_f (v := (Value.bool false)) rfl rfl ?_)
        refine Rg_op rfl (op_move (v := (Value.bool false)) rfl ?_)
        iterate 2 refine Rg_opx rfl (asB_ne rfl rfl) rfl ?_
        refine Rg_op rfl (op_pick_f (v := (Value.bool false)) rfl rfl ?_)
        refine Rg_op rfl (op_assign (v := (Value.bool false)) rfl ?_)
        refine Rg_nil ?_
        exact hK161 _ _ ⟨false, _, rfl, ⟨(by repeat (first | with_reducible exact Out.refl _ _ | refine Out.upd ?_ rfl | refine Out.updL ?_ rfl | refine Out.mix' ?_ rfl | exact Out.refl _ _)), rfl, rfl, trivial⟩, ch249, hs285, hm⟩
      ·
       replace hm := bif_f hm hg288
       iterate 2 refine Rg_opx rfl (asB_ne rfl rfl) rfl ?_
       refine Rg_op rfl (op_pick_f (v := (Value.bool false)) rfl rfl ?_)
       refine Rg_op rfl (op_move (v := (Value.bool false)) rfl ?_)
       refine Rg_opx rfl (asB_ne rfl rfl) rfl ?_
       refine Rg_op rfl (op_pick_f (v := (Value.bool false)) rfl rfl ?_)
       refine Rg_op rfl (op_move (v := (Value.bool false)) rfl ?_)
       iterate 3 refine Rg_opx rfl (asB_ne rfl rfl) rfl ?_
       refine Rg_op rfl (op_pick_f (v := (Value.bool false)) rfl rfl ?_)
       refine Rg_op rfl (op_move (v := (Value.bool false)) rfl ?_)
       iterate 2 refine Rg_opx rfl (asB_ne rfl rfl) rfl ?_
       refine Rg_op rfl (op_pick_f (v := (Value.bool false)) rfl rfl ?_)
       refine Rg_op rfl (op_move (v := (Value.bool false)) rfl ?_)
       iterate 2 refine Rg_opx rfl (asB_ne rfl rfl) rfl ?_
       refine Rg_op rfl (op_pick_f (v := (Value.bool false)) rfl rfl ?_)
       refine Rg_op rfl (op_move (v := (Value.bool false)) rfl ?_)
       iterate 2 refine Rg_opx rfl (asB_ne rfl rfl) rfl ?_
       refine Rg_op rfl (op_pick_f (v := (Value.bool false)) rfl rfl ?_)
       refine Rg_op rfl (op_move (v := (Value.bool false)) rfl ?_)
       iterate 2 refine Rg_opx rfl (asB_ne rfl rfl) rfl ?_
       refine Rg_op rfl (op_pick_f (v := (Value.bool false)) rfl rfl ?_)
       refine Rg_op rfl (op_assign (v := (Value.bool false)) rfl ?_)
       refine Rg_nil ?_
       exact hK161 _ _ ⟨false, _, rfl, ⟨(by repeat (first | with_reducible exact Out.refl _ _ | refine Out.upd ?_ rfl | refine Out.updL ?_ rfl | refine Out.mix' ?_ rfl | exact Out.refl _ _)), rfl, rfl, trivial⟩, ch249, hs285, hm⟩
     ·
      replace hm := bif_f hm hg270
      iterate 3 refine Rg_opx rfl (asB_ne rfl rfl) rfl ?_
      refine Rg_op rfl (op_pick_f (v := (Value.bool false)) rfl rfl ?_)
      refine Rg_op rfl (op_move (v := (Value.bool false)) rfl ?_)
      iterate 2 refine Rg_opx rfl (asB_ne rfl rfl) rfl ?_
      refine Rg_op rfl (op_pick_f (v := (Value.bool false)) rfl rfl ?_)
      refine Rg_op rfl (op_move (v := (Value.bool false)) rfl ?_)
      refine Rg_opx rfl (asB_ne rfl rfl) rfl ?_
      refine Rg_op rfl (op_pick_f (v := (Value.bool false)) rfl rfl ?_)
      refine Rg_op rfl (op_move (v := (Value.bool false)) rfl ?_)
      iterate 3 refine Rg_opx rfl (asB_ne rfl rfl) rfl ?_
      refine Rg_op rfl (op_pick_f (v := (Value.bool false)) rfl rfl ?_)
      refine Rg_op rfl (op_move (v := (Value.bool false)) rfl ?_)
      iterate 2 refine Rg_opx rfl (asB_ne rfl rfl) rfl ?_
      refine Rg_op rfl (op_pick_f (v := (Value.bool false)) rfl rfl ?_)
      refine Rg_op rfl (op_move (v := (Value.bool false)) rfl ?_)
      iterate 2 refine Rg_opx rfl (asB_ne rfl rfl) rfl ?_
      refine Rg_op rfl (op_pick_f (v := (Value.bool false)) rfl rfl ?_)
      refine Rg_op rfl (op_move (v := (Value.bool false)) rfl ?_)
      iterate 2 refine Rg_opx rfl (asB_ne rfl rfl) rfl ?_
      refine Rg_op rfl (op_pick_f (v := (Value.bool false)) rfl rfl ?_)
      refine Rg_op rfl (op_move (v := (Value.bool false)) rfl ?_)
      iterate 2 refine Rg_opx rfl (asB_ne rfl rfl) rfl ?_
      refine Rg_op rfl (op_pick_f (v := (Value.bool false)) rfl rfl ?_)
      refine Rg_op rfl (op_assign (v := (Value.bool false)) rfl ?_)
      refine Rg_nil ?_
      exact hK161 _ _ ⟨false, _, rfl, ⟨(by repeat (first | with_reducible exact Out.refl _ _ | refine Out.upd ?_ rfl | refine Out.updL ?_ rfl | refine Out.mix' ?_ rfl | exact Out.refl _ _)), rfl, rfl, trivial⟩, ch249, hs265, hm⟩
    ·
     replace hm := bif_f hm hg269
     refine Rg_opx rfl (asB_ne rfl rfl) rfl ?_
     refine Rg_op rfl (op_pick_f (v := (Value.bool false)) rfl rfl ?_)
     refine Rg_op rfl (op_move (v := (Value.bool false)) rfl ?_)
     iterate 3 refine Rg_opx rfl (asB_ne rfl rfl) rfl ?_
     refine Rg_op rfl (op_pick_f (v := (Value.bool false)) rfl rfl ?_)
     refine Rg_op rfl (op_move (v := (Value.bool false)) rfl ?_)
     iterate 2 refine Rg_opx rfl (asB_ne rfl rfl) rfl ?_
     refine Rg_op rfl (op_pick_f (v := (Value.bool false)) rfl rfl ?_)
     refine Rg_op rfl (op_move (v := (Value.bool false)) rfl ?_)
     refine Rg_opx rfl (asB_ne rfl rfl) rfl ?_
     refine Rg_op rfl (op_pick_f (v := (Value.bool false)) rfl rfl ?_)
     refine Rg_op rfl (op_move (v := (Value.bool false)) rfl ?_)
     iterate 3 refine Rg_opx rfl (asB_ne rfl rfl) rfl ?_
     refine Rg_op rfl (op_pick_f (v := (Value.bool false)) rfl rfl ?_)
     refine Rg_op rfl (op_move (v := (Value.bool false)) rfl ?_)
     iterate 2 refine Rg_opx rfl (asB_ne rfl rfl) rfl ?_
     refine Rg_op rfl (op_pick_f (v := (Value.bool false)) rfl rfl ?_)
     refine Rg_op rfl (op_move (v := (Value.bool false)) rfl ?_)
     iterate 2 refine Rg_opx rfl (asB_ne rfl rfl) rfl ?_
     refine Rg_op rfl (op_pick_f (v := (Value.bool false)) rfl rfl ?_)
     refine Rg_op rfl (op_move (v := (Value.bool false)) rfl ?_)
     iterate 2 refine Rg_opx rfl (asB_ne rfl rfl) rfl ?_
     refine Rg_op rfl (op_pick_f (v := (Value.bool false)) rfl rfl ?_)
     refine Rg_op rfl (op_move (v := (Value.bool false)) rfl ?_)
     iterate 2 refine Rg_opx rfl (asB_ne rfl rfl) rfl ?_
     refine Rg_op rfl (op_pick_f (v := (Value.bool false)) rfl rfl ?_)
     refine Rg_op rfl (op_assign (v := (Value.bool false)) rfl ?_)
     refine Rg_nil ?_
     exact hK161 _ _ ⟨false, _, rfl, ⟨(by repeat (first | with_reducible exact Out.refl _ _ | refine Out.upd ?_ rfl | refine Out.updL ?_ rfl | refine Out.mix' ?_ rfl | exact Out.refl _ _)), rfl, rfl, trivial⟩, ch249, hs265, hm⟩
   ·
    replace hm := bif_f hm hg268
    iterate 2 refine Rg_opx rfl (asB_ne rfl rfl) rfl ?_
    refine Rg_op rfl (op_pick_f (v := (Value.bool false)) rfl rfl ?_)
    refine Rg_op rfl (op_move (v := (Value.bool false)) rfl ?_)
    refine Rg_opx rfl (asB_ne rfl rfl) rfl ?_
    refine Rg_op rfl (op_pick_f (v := (Value.bool false)) rfl rfl ?_)
    refine Rg_op rfl (op_move (v := (Value.bool false)) rfl ?_)
    iterate 3 refine Rg_opx rfl (asB_ne rfl rfl) rfl ?_
    refine Rg_op rfl (op_pick_f (v := (Value.bool false)) rfl rfl ?_)
    refine Rg_op rfl (op_move (v := (Value.bool false)) rfl ?_)
    iterate 2 refine Rg_opx rfl (asB_ne rfl rfl) rfl ?_
    refine Rg_op rfl (op_pick_f (v := (Value.bool false)) rfl rfl ?_)
    refine Rg_op rfl (op_move (v := (Value.bool false)) rfl ?_)
    refine Rg_opx rfl (asB_ne rfl rfl) rfl ?_
    refine Rg_op rfl (op_pick_f (v := (Value.bool false)) rfl rfl ?_)
    refine Rg_op rfl (op_move (v := (Value.bool false)) rfl ?_)
    iterate 3 refine Rg_opx rfl (asB_ne rfl rfl) rfl ?_
    refine Rg_op rfl (op_pick_f (v := (Value.bool false)) rfl rfl ?_)
    refine Rg_op rfl (op_move (v := (Value.bool false)) rfl ?_)
    iterate 2 refine Rg_opx rfl (asB_ne rfl rfl) rfl ?_
    refine Rg_op rfl (op_pick_f (v := (Value.bool false)) rfl rfl ?_)
    refine Rg_op rfl (op_move (v := (Value.bool false)) rfl ?_)
    iterate 2 refine Rg_opx rfl (asB_ne rfl rfl) rfl ?_
    refine Rg_op rfl (op_pick_f (v := (Value.bool false)) rfl rfl ?_)
    refine Rg_op rfl (op_move (v := (Value.bool false)) rfl ?_)
    iterate 2 refine Rg_opx rfl (asB_ne rfl rfl) rfl ?_
    refine Rg_op rfl (op_pick_f (v := (Value.bool false)) rfl rfl ?_)
    refine Rg_op rfl (op_move (v := (Value.bool false)) rfl ?_)
    iterate 2 refine Rg_opx rfl (asB_ne rfl rfl) rfl ?_
    refine Rg_op rfl (op_pick_f (v := (Value.bool false)) rfl rfl ?_)
    refine Rg_op rfl (op_assign (v := (Value.bool false)) rfl ?_)
    refine Rg_nil ?_
    exact hK161 _ _ ⟨false, _, rfl, ⟨(by repeat (first | with_reducible exact Out.refl _ _ | refine Out.upd ?_ rfl | refine Out.updL ?_ rfl | refine Out.mix' ?_ rfl | exact Out.refl _ _)), rfl, rfl, trivial⟩, ch249, hs265, hm⟩
  ·
   replace hm := bif_f hm hg250
   iterate 3 refine Rg_opx rfl (asB_ne rfl rfl) rfl ?_
   refine Rg_op rfl (op_pick_f (v := (Value.bool false)) rfl rfl ?_)
   refine Rg_op rfl (op_move (v := (Value.bool false)) rfl ?_)
   iterate 2 refine Rg_opx rfl (asB_ne rfl rfl) rfl ?_
   refine Rg_op rfl (op_pick_f (v := (Value.bool false)) rfl rfl ?_)
   refine Rg_op rfl (op_move (v := (Value.bool false)) rfl ?_)
   refine Rg_opx rfl (asB_ne rfl rfl) rfl ?_
   refine Rg_op rfl (op_pick_f (v := (Value.bool false)) rfl rfl ?_)
   refine Rg_op rfl (op_move (v := (Value.bool false)) rfl ?_)
   iterate 3 refine Rg_opx rfl (asB_ne rfl rfl) rfl ?_
   refine Rg_op rfl (op_pick_f (v := (Value.bool false)) rfl rfl ?_)
   refine Rg_op rfl (op_move (v := (Value.bool false)) rfl ?_)
   iterate 2 refine Rg_opx rfl (asB_ne rfl rfl) rfl ?_
   refine Rg_op rfl (op_pick_f (v := (Value.bool false)) rfl rfl ?_)
   refine Rg_op rfl (op_move (v := (Value.bool false)) rfl ?_)
   refine Rg_opx rfl (asB_ne rfl rfl) rfl ?_
   refine Rg_op rfl (op_pick_f (v := (Value.bool false)) rfl rfl ?_)
   refine Rg_op rfl (op_move (v := (Value.bool false)) rfl ?_)
   iterate 3 refine Rg_opx rfl (asB_ne rfl rfl) rfl ?_
   refine Rg_op rfl (op_pick_f (v := (Value.bool false)) rfl rfl ?_)
   refine Rg_op rfl (op_move (v := (Value.bool false)) rfl ?_)
   iterate 2 refine Rg_opx rfl (asB_ne rfl rfl) rfl ?_
   refine Rg_op rfl (op_pick_f (v := (Value.bool false)) rfl rfl ?_)
   refine Rg_op rfl (op_move (v := (Value.bool false)) rfl ?_)
   iterate 2 refine Rg_opx rfl (asB_ne rfl rfl) rfl ?_
   refine Rg_op rfl (op_pick_f (v := (Value.bool false)) rfl rfl ?_)
   refine Rg_op rfl (op_move (v := (Value.bool false)) rfl ?_)
   iterate 2 refine Rg_opx rfl (asB_ne rfl rfl) rfl ?_
   refine Rg_op rfl (op_pick_f (v := (Value.bool false)) rfl rfl ?_)
   refine Rg_op rfl (op_move (v := (Value.bool false)) rfl ?_)
   iterate 2 refine Rg_opx rfl (asB_ne rfl rfl) rfl ?_
   refine Rg_op rfl (op_pick_f (v := (Value.bool false)) rfl rfl ?_)
   refine Rg_op rfl (op_assign (v := (Value.bool false)) rfl ?_)
   refine Rg_nil ?_
   exact hK161 _ _ ⟨false, _, rfl, ⟨(by repeat (first | with_reducible exact Out.refl _ _ | refine Out.upd ?_ rfl | refine Out.updL ?_ rfl | refine Out.mix' ?_ rfl | exact Out.refl _ _)), rfl, rfl, trivial⟩, ch249, hs149, hm⟩

end Go.Fx



set_option linter.unusedVariables false
set_option linter.unusedSimpArgs false
set_option maxRecDepth 100000
set_option maxHeartbeats 0
namespace Go.Fx
open Go Go.RowKit Go.Proofs
def m12_overflightref10_Few_B1 (a : XAirspace) (sf29 : Int → Option Bool) (i_2 : Int) : Option Bool :=
 bif (decide (i_2 < (a.configs.length : Int))) then
  ck ((0 : Int) ≤ i_2 ∧ i_2 < (a.configs.length : Int)) <|
  bif (decide (10 < (((a.configs.getD i_2.toNat default).sectors).length : Int))) then
   some false
  else
   sf29 (IntKind.wrap .i64 (i_2 + 1))
 else
  bif (decide ((a.volumes.length : Int) ≤ 6)) then
   bif (decide ((a.sectors.length : Int) ≤ 12)) then
    some (decide ((a.configs.length : Int) ≤ 7))
   else
    some false
  else
   some false

def m12_overflightref10_Few_B0 (a : XAirspace) (sf8 : Int → Option Bool) (i_1 : Int) : Option Bool :=
 bif (decide (i_1 < (a.sectors.length : Int))) then
  ck ((0 : Int) ≤ i_1 ∧ i_1 < (a.sectors.length : Int)) <|
  bif (decide (10 < (((a.sectors.getD i_1.toNat default).volumes).length : Int))) then
   some false
  else
   sf8 (IntKind.wrap .i64 (i_1 + 1))
 else
  loop1 (m12_overflightref10_Few_B1 a) (((a.configs.length : Int) - 0).toNat + 1) 0

def m12_overflightref10_Few (a : XAirspace) : Option Bool :=
 loop1 (m12_overflightref10_Few_B0 a) (((a.sectors.length : Int) - 0).toNat + 1) 0

theorem c12_overflightref10_Few {w : World} {O : List Nat} {a : XAirspace} {a_a_volumes : Option Addr} {c_a_volumes : Nat} {a_a_sectors : Option Addr} {c_a_sectors : Nat} {a_a_configs : Option Addr} {c_a_configs : Nat} {a_a_segments : Option Addr} {c_a_segments : Nat} {a_a_routes : Option Addr} {c_a_routes : Nat} {a_a_airports : Option Addr} {c_a_airports : Nat} {a_a_classes : Option Addr} {c_a_classes : Nat} {a_a_rules : Option Addr} {c_a_rules : Nat} (hO : ∀ k ∈ O, k < w.heap.size) (f_a_volumes : SlR rXVolume w O a_a_volumes c_a_volumes a.volumes) (f_a_sectors : SlR rXSector w O a_a_sectors c_a_sectors a.sectors) (f_a_configs : SlR rXConfig w O a_a_configs c_a_configs a.configs) (f_a_segments : SlR rXSegment w O a_a_segments c_a_segments a.segments) (f_a_routes : SlR rXRoute w O a_a_routes c_a_routes a.routes) (f_a_airports : SlR rXAirport w O a_a_airports c_a_airports a.airports) (f_a_classes : SlR rXClass w O a_a_classes c_a_classes a.classes) (f_a_rules : SlR rXRule w O a_a_rules c_a_rules a.rules) {x : Bool} (hm : m12_overflightref10_Few a = some x) :
  Ok Try.prog 12 [(Value.agg [(Value.slice a_a_volumes a.volumes.length c_a_volumes), (Value.slice a_a_sectors a.sectors.length c_a_sectors), (Value.slice a_a_configs a.configs.length c_a_configs), (Value.slice a_a_segments a.segments.length c_a_segments), (Value.slice a_a_routes a.routes.length c_a_routes), (Value.slice a_a_airports a.airports.length c_a_airports), (Value.slice a_a_classes a.classes.length c_a_classes), (Value.slice a_a_rules a.rules.length c_a_rules)].toArray)] w O vB x := by
 unfold m12_overflightref10_Few at hm
 refine Fn_of_Wp (n := 51) (xs := [.tmp 2]) Try.func12 rfl Try.ntmps12 Try.results12 rfl ?_
 have hs := St.start hO
 refine Wp_seq ?_
 refine Wp_region ?_
 refine Rg_op rfl (op_box (cs := [(Value.slice a_a_volumes a.volumes.length c_a_volumes), (Value.slice a_a_sectors a.sectors.length c_a_sectors), (Value.slice a_a_configs a.configs.length c_a_configs), (Value.slice a_a_segments a.segments.length c_a_segments), (Value.slice a_a_routes a.routes.length c_a_routes), (Value.slice a_a_airports a.airports.length c_a_airports), (Value.slice a_a_classes a.classes.length c_a_classes), (Value.slice a_a_rules a.rules.length c_a_rules)]) hs rfl rfl ?_)
 intro b1 w2 _ p3 hs4
 replace f_a_volumes := f_a_volumes.step p3; replace f_a_sectors := f_a_sectors.step p3; replace f_a_configs := f_a_configs.step p3; replace f_a_segments := f_a_segments.step p3; replace f_a_routes := f_a_routes.step p3; replace f_a_airports := f_a_airports.step p3; replace f_a_classes := f_a_classes.step p3; replace f_a_rules := f_a_rules.step p3; clear p3
 refine Rg_op rfl (op_assign (v := (Value.bool false)) rfl ?_)
 refine Rg_nil ?_
 refine Wp_seq ?_
 refine Wp_seq ?_
 refine Wp_region ?_
 refine Rg_op rfl (op_assign (v := (Value.int .i64 0)) rfl ?_)
 refine Rg_nil ?_
 refine Wp_block ?_
 refine Wp_reset [] [(1, (Value.pointer (some ⟨b1, 0, none⟩))), (3, (Value.int .i64 0))] rfl ⟨rfl, rfl, trivial⟩ fun ξ7 => ?_
 refine Wp_loopM [2, 3, 5, 6, 7, 8, 9, 10, 11, 12, 13, 14, 15, 16, 17, 18, 19] (fun m fr w' => ∃ (i_1 : Int) (Ebs : Ents), Ebs = [(some b1, Obj.cells [(Value.slice a_a_volumes a.volumes.length c_a_volumes), (Value.slice a_a_sectors a.sectors.length c_a_sectors), (Value.slice a_a_configs a.configs.length c_a_configs), (Value.slice a_a_segments a.segments.length c_a_segments), (Value.slice a_a_routes a.routes.length c_a_routes), (Value.slice a_a_airports a.airports.length c_a_airports), (Value.slice a_a_classes a.classes.length c_a_classes), (Value.slice a_a_rules a.rules.length c_a_rules)].toArray 31)] ∧ fr [] [(3, (Value.int .i64 i_1))] ∧ Step (ks [(some b1, Obj.cells [(Value.slice a_a_volumes a.volumes.length c_a_volumes), (Value.slice a_a_sectors a.sectors.length c_a_sectors), (Value.slice a_a_configs a.configs.length c_a_configs), (Value.slice a_a_segments a.segments.length c_a_segments), (Value.slice a_a_routes a.routes.length c_a_routes), (Value.slice a_a_airports a.airports.length c_a_airports), (Value.slice a_a_classes a.classes.length c_a_classes), (Value.slice a_a_rules a.rules.length c_a_rules)].toArray 31)] O) w2 (ks Ebs O) w' ∧ St ⟨w, [], []⟩ O w' Ebs ∧ InK .i64 i_1 ∧ loop1 (m12_overflightref10_Few_B0 a) m i_1 = some x) (((a.sectors.length : Int) - 0).toNat + 1) ⟨0, _, rfl, ⟨Out.refl _ _, rfl, rfl, trivial⟩, Step.refl _ _, hs4, (show InK .i64 0 from by decide), hm⟩ ?_ ?_
 · rintro _ _ ⟨_, _, _, _, _, _, _, hm⟩; exact loop1_z hm
 ·
  rintro m11 K10 hK10 ρ16 w12 ⟨i_1, Ebs, hEbs, hfr15, hst14, hs13, r_y6, hm⟩
  obtain ⟨sf8, hsf9, hm⟩ := loop1_s hm; unfold m12_overflightref10_Few_B0 at hm
  subst hEbs; rw [hfr15.eq]; clear hfr15
  replace f_a_volumes := f_a_volumes.step hst14; replace f_a_sectors := f_a_sectors.step hst14; replace f_a_configs := f_a_configs.step hst14; replace f_a_segments := f_a_segments.step hst14; replace f_a_routes := f_a_routes.step hst14; replace f_a_airports := f_a_airports.step hst14; replace f_a_classes := f_a_classes.step hst14; replace f_a_rules := f_a_rules.step hst14
  have ch17 := hst14
  refine Wp_seq ?_
  refine Wp_seq ?_
  refine Wp_region ?_
  refine Rg_op rfl (op_move (v := (Value.int .i64 i_1)) rfl ?_)
  refine Rg_op rfl (op_fieldAddr ty31 rfl ty23 (by decide) rfl (rfl : _ = (⟨_, 1, none⟩ : Addr)) ?_)
  refine Rg_op rfl (op_load (cs := [(Value.slice a_a_volumes a.volumes.length c_a_volumes), (Value.slice a_a_sectors a.sectors.length c_a_sectors), (Value.slice a_a_configs a.configs.length c_a_configs), (Value.slice a_a_segments a.segments.length c_a_segments), (Value.slice a_a_routes a.routes.length c_a_routes), (Value.slice a_a_airports a.airports.length c_a_airports), (Value.slice a_a_classes a.classes.length c_a_classes), (Value.slice a_a_rules a.rules.length c_a_rules)]) (i := 0) ty23 hs13 rfl rfl rfl ?_)
  refine Rg_op rfl (op_len Try.underlying23 rfl ?_)
  refine Rg_op rfl (op_lss rfl rfl ?_)
  refine Rg_nil ?_
  refine Wp_cond rfl (fun hc18 => ?_) (fun hc18 => ?_)
  ·
   replace hm := bif_t hm hc18
   refine Wp_skip ?_
   refine Wp_seq ?_
   refine Wp_block ?_
   refine Wp_seq ?_
   refine Wp_region ?_
   refine Rg_op rfl (op_fieldAddr ty31 rfl ty23 (by decide) rfl (rfl : _ = (⟨_, 1, none⟩ : Addr)) ?_)
   refine Rg_op rfl (op_load (cs := [(Value.slice a_a_volumes a.volumes.length c_a_volumes), (Value.slice a_a_sectors a.sectors.length c_a_sectors), (Value.slice a_a_configs a.configs.length c_a_configs), (Value.slice a_a_segments a.segments.length c_a_segments), (Value.slice a_a_routes a.routes.length c_a_routes), (Value.slice a_a_airports a.airports.length c_a_airports), (Value.slice a_a_classes a.classes.length c_a_classes), (Value.slice a_a_rules a.rules.length c_a_rules)]) (i := 0) ty23 hs13 rfl rfl rfl ?_)
   refine Rg_op rfl (op_move (v := (Value.int .i64 i_1)) rfl ?_)
   replace hm := ck_some hm; obtain ⟨hc19, hm⟩ := hm
   refine Rg_op rfl (op_indexAddr (q := rXSector) ty23 ty50 rfl rfl f_a_sectors rfl hc19.1 hc19.2 ?_)
   intro p20 f21
   refine Rg_op rfl (op_fieldAddr ty50 rfl ty39 (by decide) rfl rfl ?_)
   have f22 := f21.via.snd.snd.fst
   refine Rg_op rfl (op_loadP ty39 rfl f22 rfl ?_)
   intro v23 h24
   obtain ⟨a_y25, c_y25, rfl, f_y25⟩ := un_sl h24
   refine Rg_op rfl (op_len Try.underlying39 rfl ?_)
   refine Rg_op rfl (op_gtr rfl rfl ?_)
   refine Rg_nil ?_
   refine Wp_cond rfl (fun hc26 => ?_) (fun hc26 => ?_)
   ·
    replace hm := bif_t hm hc26
    refine Wp_seq ?_
    clear f21 f22 f_y25
    refine Wp_region ?_
    refine Rg_op rfl (op_assign (v := (Value.bool false)) rfl ?_)
    refine Rg_nil ?_
    refine Wp_ret ?_
    have hz := step_all hs13
    replace f_a_volumes := f_a_volumes.step hz; replace f_a_sectors := f_a_sectors.step hz; replace f_a_configs := f_a_configs.step hz; replace f_a_segments := f_a_segments.step hz; replace f_a_routes := f_a_routes.step hz; replace f_a_airports := f_a_airports.step hz; replace f_a_classes := f_a_classes.step hz; replace f_a_rules := f_a_rules.step hz
    refine ⟨_, (show Closes [] _ _ from rfl), [(Value.bool false)], ⟨rfl, trivial⟩, hs13.ext, ?_⟩
    exact Vr.eq (a := vB) (x := false) rfl (Option.some.inj hm)
   ·
    replace hm := bif_f hm hc26
    refine Wp_skip ?_
    clear f21 f22 f_y25
    refine Wp_region ?_
    refine Rg_op rfl (op_move (v := (Value.int .i64 i_1)) rfl ?_)
    refine Rg_op rfl (op_addw rfl rfl ?_)
    refine Rg_op rfl (op_assign (v := (Value.int .i64 (IntKind.wrap .i64 (i_1 + 1)))) rfl ?_)
    refine Rg_nil ?_
    exact hK10 _ _ ⟨(IntKind.wrap .i64 (i_1 + 1)), _, rfl, ⟨(by repeat (first | with_reducible exact Out.refl _ _ | refine Out.upd ?_ rfl | refine Out.updL ?_ rfl | refine Out.mix' ?_ rfl | exact Out.refl _ _)), rfl, rfl, trivial⟩, ch17, hs13, (inK_wrap .i64 _), jnE1 hsf9 hm⟩
  ·
   replace hm := bif_f hm hc18
   refine Wp_exit ?_
   refine Wp_seq ?_
   refine Wp_seq ?_
   refine Wp_region ?_
   refine Rg_op rfl (op_assign (v := (Value.int .i64 0)) rfl ?_)
   refine Rg_nil ?_
   refine Wp_block ?_
   refine Wp_reset [] [(1, (Value.pointer (some ⟨b1, 0, none⟩))), (4, (Value.int .i64 0))] rfl ⟨rfl, rfl, trivial⟩ fun ξ28 => ?_
   refine Wp_loopM [2, 4, 20, 21, 22, 23, 24, 25, 26, 27, 28, 29, 30, 31, 32, 33, 34] (fun m fr w' => ∃ (i_2 : Int) (Ebs : Ents), Ebs = [(some b1, Obj.cells [(Value.slice a_a_volumes a.volumes.length c_a_volumes), (Value.slice a_a_sectors a.sectors.length c_a_sectors), (Value.slice a_a_configs a.configs.length c_a_configs), (Value.slice a_a_segments a.segments.length c_a_segments), (Value.slice a_a_routes a.routes.length c_a_routes), (Value.slice a_a_airports a.airports.length c_a_airports), (Value.slice a_a_classes a.classes.length c_a_classes), (Value.slice a_a_rules a.rules.length c_a_rules)].toArray 31)] ∧ fr [] [(4, (Value.int .i64 i_2))] ∧ Step (ks [(some b1, Obj.cells [(Value.slice a_a_volumes a.volumes.length c_a_volumes), (Value.slice a_a_sectors a.sectors.length c_a_sectors), (Value.slice a_a_configs a.configs.length c_a_configs), (Value.slice a_a_segments a.segments.length c_a_segments), (Value.slice a_a_routes a.routes.length c_a_routes), (Value.slice a_a_airports a.airports.length c_a_airports), (Value.slice a_a_classes a.classes.length c_a_classes), (Value.slice a_a_rules a.rules.length c_a_rules)].toArray 31)] O) w12 (ks Ebs O) w' ∧ St ⟨w, [], []⟩ O w' Ebs ∧ InK .i64 i_2 ∧ loop1 (m12_overflightref10_Few_B1 a) m i_2 = some x) (((a.configs.length : Int) - 0).toNat + 1) ⟨0, _, rfl, ⟨Out.refl _ _, rfl, rfl, trivial⟩, Step.refl _ _, hs13, (show InK .i64 0 from by decide), hm⟩ ?_ ?_
   · rintro _ _ ⟨_, _, _, _, _, _, _, hm⟩; exact loop1_z hm
   ·
    rintro m32 K31 hK31 ρ37 w33 ⟨i_2, Ebs, hEbs, hfr36, hst35, hs34, r_y27, hm⟩
    obtain ⟨sf29, hsf30, hm⟩ := loop1_s hm; unfold m12_overflightref10_Few_B1 at hm
    subst hEbs; rw [hfr36.eq]; clear hfr36
    replace f_a_volumes := f_a_volumes.step hst35; replace f_a_sectors := f_a_sectors.step hst35; replace f_a_configs := f_a_configs.step hst35; replace f_a_segments := f_a_segments.step hst35; replace f_a_routes := f_a_routes.step hst35; replace f_a_airports := f_a_airports.step hst35; replace f_a_classes := f_a_classes.step hst35; replace f_a_rules := f_a_rules.step hst35; replace ch17 := ch17.trans hst35
    have ch38 := hst35
    refine Wp_seq ?_
    refine Wp_seq ?_
    refine Wp_region ?_
    refine Rg_op rfl (op_move (v := (Value.int .i64 i_2)) rfl ?_)
    refine Rg_op rfl (op_fieldAddr ty31 rfl ty24 (by decide) rfl (rfl : _ = (⟨_, 2, none⟩ : Addr)) ?_)
    refine Rg_op rfl (op_load (cs := [(Value.slice a_a_volumes a.volumes.length c_a_volumes), (Value.slice a_a_sectors a.sectors.length c_a_sectors), (Value.slice a_a_configs a.configs.length c_a_configs), (Value.slice a_a_segments a.segments.length c_a_segments), (Value.slice a_a_routes a.routes.length c_a_routes), (Value.slice a_a_airports a.airports.length c_a_airports), (Value.slice a_a_classes a.classes.length c_a_classes), (Value.slice a_a_rules a.rules.length c_a_rules)]) (i := 0) ty24 hs34 rfl rfl rfl ?_)
    refine Rg_op rfl (op_len Try.underlying24 rfl ?_)
    refine Rg_op rfl (op_lss rfl rfl ?_)
    refine Rg_nil ?_
    refine Wp_cond rfl (fun hc39 => ?_) (fun hc39 => ?_)
    ·
     replace hm := bif_t hm hc39
     refine Wp_skip ?_
     refine Wp_seq ?_
     refine Wp_block ?_
     refine Wp_seq ?_
     refine Wp_region ?_
     refine Rg_op rfl (op_fieldAddr ty31 rfl ty24 (by decide) rfl (rfl : _ = (⟨_, 2, none⟩ : Addr)) ?_)
     refine Rg_op rfl (op_load (cs := [(Value.slice a_a_volumes a.volumes.length c_a_volumes), (Value.slice a_a_sectors a.sectors.length c_a_sectors), (Value.slice a_a_configs a.configs.length c_a_configs), (Value.slice a_a_segments a.segments.length c_a_segments), (Value.slice a_a_routes a.routes.length c_a_routes), (Value.slice a_a_airports a.airports.length c_a_airports), (Value.slice a_a_classes a.classes.length c_a_classes), (Value.slice a_a_rules a.rules.length c_a_rules)]) (i := 0) ty24 hs34 rfl rfl rfl ?_)
     refine Rg_op rfl (op_move (v := (Value.int .i64 i_2)) rfl ?_)
     replace hm := ck_some hm; obtain ⟨hc40, hm⟩ := hm
     refine Rg_op rfl (op_indexAddr (q := rXConfig) ty24 ty52 rfl rfl f_a_configs rfl hc40.1 hc40.2 ?_)
     intro p41 f42
     refine Rg_op rfl (op_fieldAddr ty52 rfl ty39 (by decide) rfl rfl ?_)
     have f43 := f42.via.snd.snd
     refine Rg_op rfl (op_loadP ty39 rfl f43 rfl ?_)
     intro v44 h45
     obtain ⟨a_y46, c_y46, rfl, f_y46⟩ := un_sl h45
     refine Rg_op rfl (op_len Try.underlying39 rfl ?_)
     refine Rg_op rfl (op_gtr rfl rfl ?_)
     refine Rg_nil ?_
     refine Wp_cond rfl (fun hc47 => ?_) (fun hc47 => ?_)
     ·
      replace hm := bif_t hm hc47
      refine Wp_seq ?_
      clear f42 f43 f_y46
      refine Wp_region ?_
      refine Rg_op rfl (op_assign (v := (Value.bool false)) rfl ?_)
      refine Rg_nil ?_
      refine Wp_ret ?_
      have hz := step_all hs34
      replace f_a_volumes := f_a_volumes.step hz; replace f_a_sectors := f_a_sectors.step hz; replace f_a_configs := f_a_configs.step hz; replace f_a_segments := f_a_segments.step hz; replace f_a_routes := f_a_routes.step hz; replace f_a_airports := f_a_airports.step hz; replace f_a_classes := f_a_classes.step hz; replace f_a_rules := f_a_rules.step hz
      refine ⟨_, (show Closes [] _ _ from rfl), [(Value.bool false)], ⟨rfl, trivial⟩, hs34.ext, ?_⟩
      exact Vr.eq (a := vB) (x := false) rfl (Option.some.inj hm)
     ·
      replace hm := bif_f hm hc47
      refine Wp_skip ?_
      clear f42 f43 f_y46
      refine Wp_region ?_
      refine Rg_op rfl (op_move (v := (Value.int .i64 i_2)) rfl ?_)
      refine Rg_op rfl (op_addw rfl rfl ?_)
      refine Rg_op rfl (op_assign (v := (Value.int .i64 (IntKind.wrap .i64 (i_2 + 1)))) rfl ?_)
      refine Rg_nil ?_
      exact hK31 _ _ ⟨(IntKind.wrap .i64 (i_2 + 1)), _, rfl, ⟨(by repeat (first | with_reducible exact Out.refl _ _ | refine Out.upd ?_ rfl | refine Out.updL ?_ rfl | refine Out.mix' ?_ rfl | exact Out.refl _ _)), rfl, rfl, trivial⟩, ch38, hs34, (inK_wrap .i64 _), jnE1 hsf30 hm⟩
    ·
     replace hm := bif_f hm hc39
     refine Wp_exit ?_
     refine Wp_seq ?_
     refine Wp_region ?_
     refine Rg_op rfl (op_fieldAddr ty31 rfl ty22 (by decide) rfl (rfl : _ = (⟨_, 0, none⟩ : Addr)) ?_)
     refine Rg_op rfl (op_load (cs := [(Value.slice a_a_volumes a.volumes.length c_a_volumes), (Value.slice a_a_sectors a.sectors.length c_a_sectors), (Value.slice a_a_configs a.configs.length c_a_configs), (Value.slice a_a_segments a.segments.length c_a_segments), (Value.slice a_a_routes a.routes.length c_a_routes), (Value.slice a_a_airports a.airports.length c_a_airports), (Value.slice a_a_classes a.classes.length c_a_classes), (Value.slice a_a_rules a.rules.length c_a_rules)]) (i := 0) ty22 hs34 rfl rfl rfl ?_)
     refine Rg_op rfl (op_len Try.underlying22 rfl ?_)
     refine Rg_op rfl (op_leq rfl rfl ?_)
     refine Rg_op rfl (op_move (v := (Value.bool (decide ((a.volumes.length : Int) ≤ 6)))) rfl ?_)
     refine Rg_case (fun hg48 => ?_) (fun hg48 => ?_)
     ·
      replace hm := bif_t hm hg48
      refine Rg_opg rfl rfl rfl (op_fieldAddr ty31 rfl ty23 (by decide) rfl (rfl : _ = (⟨_, 1, none⟩ : Addr)) ?_)
      refine Rg_opg rfl rfl rfl (op_load (cs := [(Value.slice a_a_volumes a.volumes.length c_a_volumes), (Value.slice a_a_sectors a.sectors.length c_a_sectors), (Value.slice a_a_configs a.configs.length c_a_configs), (Value.slice a_a_segments a.segments.length c_a_segments), (Value.slice a_a_routes a.routes.length c_a_routes), (Value.slice a_a_airports a.airports.length c_a_airports), (Value.slice a_a_classes a.classes.length c_a_classes), (Value.slice a_a_rules a.rules.length c_a_rules)]) (i := 0) ty23 hs34 rfl rfl rfl ?_)
      refine Rg_opg rfl rfl rfl (op_len Try.underlying23 rfl ?_)
      refine Rg_opg rfl rfl rfl (op_leq rfl rfl ?_)
      refine Rg_op rfl (op_pick_t (v := (Value.bool (decide ((a.sectors.length : Int) ≤ 12)))) rfl rfl ?_)
      refine Rg_op rfl (op_move (v := (Value.bool (decide ((a.sectors.length : Int) ≤ 12)))) rfl ?_)
      refine Rg_case (fun hg49 => ?_) (fun hg49 => ?_)
      ·
       replace hm := bif_t hm hg49
       refine Rg_opg rfl rfl rfl (op_fieldAddr ty31 rfl ty24 (by decide) rfl (rfl : _ = (⟨_, 2, none⟩ : Addr)) ?_)
       refine Rg_opg rfl rfl rfl (op_load (cs := [(Value.slice a_a_volumes a.volumes.length c_a_volumes), (Value.slice a_a_sectors a.sectors.length c_a_sectors), (Value.slice a_a_configs a.configs.length c_a_configs), (Value.slice a_a_segments a.segments.length c_a_segments), (Value.slice a_a_routes a.routes.length c_a_routes), (Value.slice a_a_airports a.airports.length c_a_airports), (Value.slice a_a_classes a.classes.length c_a_classes), (Value.slice a_a_rules a.rules.length c_a_rules)]) (i := 0) ty24 hs34 rfl rfl rfl ?_)
       refine Rg_opg rfl rfl rfl (op_len Try.underlying24 rfl ?_)
       refine Rg_opg rfl rfl rfl (op_leq rfl rfl ?_)
       refine Rg_op rfl (op_pick_t (v := (Value.bool (decide ((a.configs.length : Int) ≤ 7)))) rfl rfl ?_)
       refine Rg_op rfl (op_assign (v := (Value.bool (decide ((a.configs.length : Int) ≤ 7)))) rfl ?_)
       refine Rg_nil ?_
       refine Wp_ret ?_
       have hz := step_all hs34
       replace f_a_volumes := f_a_volumes.step hz; replace f_a_sectors := f_a_sectors.step hz; replace f_a_configs := f_a_configs.step hz; replace f_a_segments := f_a_segments.step hz; replace f_a_routes := f_a_routes.step hz; replace f_a_airports := f_a_airports.step hz; replace f_a_classes := f_a_classes.step hz; replace f_a_rules := f_a_rules.step hz
       refine ⟨_, (show Closes [] _ _ from rfl), [(Value.bool (decide ((a.configs.length : Int) ≤ 7)))], ⟨rfl, trivial⟩, hs34.ext, ?_⟩
       exact Vr.eq (a := vB) (x := (decide ((a.configs.length : Int) ≤ 7))) rfl (Option.some.inj hm)
      ·
       replace hm := bif_f hm hg49
       iterate 4 refine Rg_opx rfl (asB_ne rfl rfl) rfl ?_
       refine Rg_op rfl (op_pick_f (v := (Value.bool false)) rfl rfl ?_)
       refine Rg_op rfl (op_assign (v := (Value.bool false)) rfl ?_)
       refine Rg_nil ?_
       refine Wp_ret ?_
       have hz := step_all hs34
       replace f_a_volumes := f_a_volumes.step hz; replace f_a_sectors := f_a_sectors.step hz; replace f_a_configs := f_a_configs.step hz; replace f_a_segments := f_a_segments.step hz; replace f_a_routes := f_a_routes.step hz; replace f_a_airports := f_a_airports.step hz; replace f_a_classes := f_a_classes.step hz; replace f_a_rules := f_a_rules.step hz
       refine ⟨_, (show Closes [] _ _ from rfl), [(Value.bool false)], ⟨rfl, trivial⟩, hs34.ext, ?_⟩
       exact Vr.eq (a := vB) (x := false) rfl (Option.some.inj hm)
     ·
      replace hm := bif_f hm hg48
      iterate 4 refine Rg_opx rfl (asB_ne rfl rfl) rfl ?_
      refine Rg_op rfl (op_pick_f (v := (Value.bool false)) rfl rfl ?_)
      refine Rg_op rfl (op_move (v := (Value.bool false)) rfl ?_)
      iterate 4 refine Rg_opx rfl (asB_ne rfl rfl) rfl ?_
      refine Rg_op rfl (op_pick_f (v := (Value.bool false)) rfl rfl ?_)
      refine Rg_op rfl (op_assign (v := (Value.bool false)) rfl ?_)
      refine Rg_nil ?_
      refine Wp_ret ?_
      have hz := step_all hs34
      replace f_a_volumes := f_a_volumes.step hz; replace f_a_sectors := f_a_sectors.step hz; replace f_a_configs := f_a_configs.step hz; replace f_a_segments := f_a_segments.step hz; replace f_a_routes := f_a_routes.step hz; replace f_a_airports := f_a_airports.step hz; replace f_a_classes := f_a_classes.step hz; replace f_a_rules := f_a_rules.step hz
      refine ⟨_, (show Closes [] _ _ from rfl), [(Value.bool false)], ⟨rfl, trivial⟩, hs34.ext, ?_⟩
      exact Vr.eq (a := vB) (x := false) rfl (Option.some.inj hm)

end Go.Fx



set_option linter.unusedVariables false
set_option linter.unusedSimpArgs false
set_option maxRecDepth 100000
set_option maxHeartbeats 0
namespace Go.Fx
open Go Go.RowKit Go.Proofs
def m27_overflightlaw10_ConfigsOrder_1_B0 (l : List Int) (sf5 : (List Int) → Int → Option (List Int)) (x_1 : List Int) (i_1 : Int) : Option (List Int) :=
 bif (decide (0 ≤ i_1)) then
  ck ((0 : Int) ≤ i_1 ∧ i_1 < (l.length : Int)) <|
  ck ((x_1.length + [(l.getD i_1.toNat default)].length) * 8 ≤ 140737488355328) <|
  sf5 (x_1 ++ [(l.getD i_1.toNat default)]) (IntKind.wrap .i64 (i_1 - 1))
 else
  some x_1

def m27_overflightlaw10_ConfigsOrder_1 (l : List Int) : Option (List Int) :=
 loop2 (m27_overflightlaw10_ConfigsOrder_1_B0 l) (1000000) ([] : List Int) (IntKind.wrap .i64 ((l.length : Int) - 1))

theorem g27_overflightlaw10_ConfigsOrder_1 {w : World} {O : List Nat} {l : List Int} {a_l : Option Addr} {c_l : Nat} (hO : ∀ k ∈ O, k < w.heap.size) (f_l : SlR (rInt .i64) w O a_l c_l l) {x : (List Int)} (hm : m27_overflightlaw10_ConfigsOrder_1 l = some x) :
  OkG Try.prog 27 [(Value.slice a_l l.length c_l)] w O (rInt .i64) 3 x := by
 unfold m27_overflightlaw10_ConfigsOrder_1 at hm
 refine Fn_of_Wp (n := 20) (xs := [.tmp 2]) Try.func27 rfl Try.ntmps27 Try.results27 rfl ?_
 have hs := St.start hO
 refine Wp_seq ?_
 refine Wp_region ?_
 refine Rg_op rfl (op_assign (v := (Value.slice none 0 0)) rfl ?_)
 refine Rg_nil ?_
 refine Wp_seq ?_
 refine Wp_region ?_
 refine Rg_op rfl (op_assign (v := (Value.slice none 0 0)) rfl ?_)
 refine Rg_nil ?_
 refine Wp_seq ?_
 refine Wp_seq ?_
 refine Wp_region ?_
 refine Rg_op rfl (op_move (v := (Value.slice a_l l.length c_l)) rfl ?_)
 refine Rg_op rfl (op_len Try.underlying39 rfl ?_)
 refine Rg_op rfl (op_subw rfl rfl ?_)
 refine Rg_op rfl (op_assign (v := (Value.int .i64 (IntKind.wrap .i64 ((l.length : Int) - 1)))) rfl ?_)
 refine Rg_nil ?_
 refine Wp_block ?_
 refine Wp_reset [] [(0, (Value.slice a_l l.length c_l)), (3, (Value.slice none 0 0)), (4, (Value.int .i64 (IntKind.wrap .i64 ((l.length : Int) - 1))))] rfl ⟨rfl, rfl, rfl, trivial⟩ fun ξ4 => ?_
 have hs9 := hs.ghost (Obj.cells #[] 3)
 refine Wp_loopM [3, 4, 8, 9, 10, 11, 12, 13, 14, 15, 16, 17, 18] (fun m fr w' => ∃ (x_1 : List Int) (i_1 : Int) (a_g2 : Option Addr) (c_g2 : Nat) (k_g2 : Option Nat) (o_g2 : Obj) (Ebs : Ents), Ebs = [(k_g2, o_g2)] ∧ fr [] [(3, (Value.slice a_g2 x_1.length c_g2)), (4, (Value.int .i64 i_1))] ∧ Step (ks [(none, (Obj.cells #[] 3))] O) w (ks Ebs O) w' ∧ St ⟨w, [], []⟩ O w' Ebs ∧ Gs (rInt .i64) 3 w' (ks Ebs O) a_g2 c_g2 x_1 k_g2 o_g2 ∧ InK .i64 i_1 ∧ loop2 (m27_overflightlaw10_ConfigsOrder_1_B0 l) m x_1 i_1 = some x) (1000000) ⟨([] : List Int), (IntKind.wrap .i64 ((l.length : Int) - 1)), none, 0, none, (Obj.cells #[] 3), _, rfl, ⟨Out.refl _ _, rfl, rfl, rfl, trivial⟩, Step.refl _ _, hs9, Gs.nil_, (inK_wrap .i64 _), hm⟩ ?_ ?_
 · rintro _ _ ⟨_, _, _, _, _, _, _, _, _, _, _, _, _, hm⟩; exact loop2_z hm
 ·
  rintro m8 K7 hK7 ρ15 w11 ⟨x_1, i_1, a_g2, c_g2, k_g2, o_g2, Ebs, hEbs, hfr14, hst13, hs12, f_g2, r_y3, hm⟩
  obtain ⟨sf5, hsf6, hm⟩ := loop2_s hm; unfold m27_overflightlaw10_ConfigsOrder_1_B0 at hm
  subst hEbs; rw [hfr14.eq]; clear hfr14
  replace f_l := f_l.step hst13
  have ch16 := hst13
  refine Wp_seq ?_
  refine Wp_seq ?_
  refine Wp_region ?_
  refine Rg_op rfl (op_move (v := (Value.int .i64 i_1)) rfl ?_)
  refine Rg_op rfl (op_geq rfl rfl ?_)
  refine Rg_nil ?_
  refine Wp_cond rfl (fun hc17 => ?_) (fun hc17 => ?_)
  ·
   replace hm := bif_t hm hc17
   refine Wp_skip ?_
   refine Wp_seq ?_
   refine Wp_block ?_
   refine Wp_region ?_
   refine Rg_op rfl (op_move (v := (Value.slice a_g2 x_1.length c_g2)) rfl ?_)
   refine Rg_op rfl (op_move (v := (Value.slice a_l l.length c_l)) rfl ?_)
   refine Rg_op rfl (op_move (v := (Value.int .i64 i_1)) rfl ?_)
   replace hm := ck_some hm; obtain ⟨hc18, hm⟩ := hm
   refine Rg_op rfl (op_indexAddr (q := (rInt .i64)) ty39 ty3 rfl rfl f_l rfl hc18.1 hc18.2 ?_)
   intro p19 f20
   refine Rg_op rfl (op_loadP ty3 rfl f20 rfl ?_)
   intro v21 h22
   obtain ⟨rfl, r_y23⟩ := un_int h22
   refine Rg_op rfl (op_buildSlice (cs := [(Value.int .i64 (l.getD i_1.toNat default))]) (parts := [(0, .tmp 16)]) ty39 ty3 hs12 (by decide) rfl ?_)
   intro b24 w25 hx28 p26 hs27
   replace f_l := f_l.step p26; replace f_g2 := f_g2.step p26; replace f20 := f20.step p26; replace ch16 := ch16.trans p26; clear p26 hs12
   replace hm := ck_some hm; obtain ⟨hc30, hm⟩ := hm
   refine Rg_op rfl (op_append (q := (rInt .i64)) (i := 1) (xs := x_1) (ys := [(l.getD i_1.toNat default)]) (news := [(Value.int .i64 (l.getD i_1.toNat default))]) ty39 ty3 rfl (by decide) hs27 rfl rfl f_g2 rfl (Src.owned' (len := 1) (hs27.get (i := 0) rfl) rfl) (show Els (rInt .i64) _ _ [(Value.int .i64 (l.getD i_1.toNat default))] [(l.getD i_1.toNat default)] from ⟨_, _, rfl, (mk_int r_y23), Els.nil⟩) hc30 (by have := hc30; simp only [maxLen]; omega) ?_)
   intro a34 c35 k36 o37 w31 p32 hs33 f38
   replace f_l := f_l.step p32; replace f20 := f20.step p32; replace ch16 := ch16.trans p32; clear p32 hs27
   have hs39 := hs33.drop 0
   replace f_l := f_l.step (hs33.dropS 0)
   replace f20 := f20.step (hs33.dropS 0)
   replace f38 := f38.step (hs33.dropS 0)
   replace ch16 := ch16.trans (hs33.dropS 0); clear hs33
   refine Rg_op rfl (op_assign (v := (Value.slice a34 (x_1 ++ [(l.getD i_1.toNat default)]).length c35)) rfl ?_)
   refine Rg_nil ?_
   clear f20
   refine Wp_region ?_
   refine Rg_op rfl (op_move (v := (Value.int .i64 i_1)) rfl ?_)
   refine Rg_op rfl (op_subw rfl rfl ?_)
   refine Rg_op rfl (op_assign (v := (Value.int .i64 (IntKind.wrap .i64 (i_1 - 1)))) rfl ?_)
   refine Rg_nil ?_
   exact hK7 _ _ ⟨(x_1 ++ [(l.getD i_1.toNat default)]), (IntKind.wrap .i64 (i_1 - 1)), a34, c35, k36, o37, _, rfl, ⟨(by repeat (first | with_reducible exact Out.refl _ _ | refine Out.upd ?_ rfl | refine Out.updL ?_ rfl | refine Out.mix' ?_ rfl | exact Out.refl _ _)), rfl, rfl, rfl, trivial⟩, ch16, hs39, f38, (inK_wrap .i64 _), jnE2 hsf6 hm⟩
  ·
   replace hm := bif_f hm hc17
   refine Wp_exit ?_
   refine Wp_seq ?_
   clear f_l
   refine Wp_region ?_
   refine Rg_op rfl (op_move (v := (Value.slice a_g2 x_1.length c_g2)) rfl ?_)
   refine Rg_op rfl (op_assign (v := (Value.slice a_g2 x_1.length c_g2)) rfl ?_)
   refine Rg_nil ?_
   refine Wp_ret ?_
   refine ⟨_, (show Closes [] _ _ from rfl), [(Value.slice a_g2 x_1.length c_g2)], ⟨rfl, trivial⟩, hs12.ext, ?_⟩
   exact OkG.mk (i := 0) hs12 rfl f_g2 (Option.some.inj hm)
theorem c27_overflightlaw10_ConfigsOrder_1 {w : World} {O : List Nat} {l : List Int} {a_l : Option Addr} {c_l : Nat} (hO : ∀ k ∈ O, k < w.heap.size) (f_l : SlR (rInt .i64) w O a_l c_l l) {x : (List Int)} (hm : m27_overflightlaw10_ConfigsOrder_1 l = some x) :
  Ok Try.prog 27 [(Value.slice a_l l.length c_l)] w O (vC (rSl (rInt .i64))) x :=
 (g27_overflightlaw10_ConfigsOrder_1 hO f_l hm).ok hO

end Go.Fx


