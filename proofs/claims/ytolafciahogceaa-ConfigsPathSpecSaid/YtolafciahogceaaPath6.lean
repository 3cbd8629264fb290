/- Path and Stuck of chapter 10 match the specification, for every airspace and two configurations. -/
import Derived.Test.YtolafciahogceaaPath5
import Derived.Laws.Bits64b
import Derived.Test.YtolafciahogceaaRows
import Derived.WalkKit
import Derived.ShutString
set_option linter.unusedVariables false
set_option linter.unusedSimpArgs false
set_option maxRecDepth 100000
set_option maxHeartbeats 0
namespace Go.Fx
open Go Go.RowKit Go.Proofs
def m5_overflightlaw10_ConfigsPathSpec (a : XAirspace) (from_ : Int) (to : Int) : Option Bool :=
 (m11_overflightlaw10_sane).bind fun sane_1 =>
 bif (!sane_1) then
  some false
 else
  (m12_overflightref10_Few a).bind fun few_1 =>
  bif (!few_1) then
   some true
  else
   (m22_configs_Path a from_ to).bind fun path_1 =>
   (m23_overflightref10_Path a from_ to).bind fun path_2 =>
   (m24_configs_Stuck a).bind fun stuck_1 =>
   (m25_overflightref10_Stuck a).bind fun stuck_2 =>
   jn (fun (v_1 : Bool) =>
    some v_1)
   (fun k101 =>
    (m21_overflightref10_SameInts path_1.1 path_2.1).bind fun sameints_1 =>
    bif sameints_1 then
     bif (path_1.2.1 == path_2.2.1) then
      bif (decide (path_1.2.2 = path_2.2.2)) then
       bif (decide (stuck_1.1 = stuck_2.1)) then
        bif (decide (stuck_1.2.1 = stuck_2.2.1)) then
         bif (stuck_1.2.2.1 == stuck_2.2.2.1) then
          k101 (decide (stuck_1.2.2.2 = stuck_2.2.2.2))
         else
          k101 false
        else
         k101 false
       else
        k101 false
      else
       k101 false
     else
      k101 false
    else
     k101 false)

theorem c5_overflightlaw10_ConfigsPathSpec {w : World} {O : List Nat} {a : XAirspace} {from_ : Int} {to : Int} {a_a_volumes : Option Addr} {c_a_volumes : Nat} {a_a_sectors : Option Addr} {c_a_sectors : Nat} {a_a_configs : Option Addr} {c_a_configs : Nat} {a_a_segments : Option Addr} {c_a_segments : Nat} {a_a_routes : Option Addr} {c_a_routes : Nat} {a_a_airports : Option Addr} {c_a_airports : Nat} {a_a_classes : Option Addr} {c_a_classes : Nat} {a_a_rules : Option Addr} {c_a_rules : Nat} (hO : ∀ k ∈ O, k < w.heap.size) (f_a_volumes : SlR rXVolume w O a_a_volumes c_a_volumes a.volumes) (f_a_sectors : SlR rXSector w O a_a_sectors c_a_sectors a.sectors) (f_a_configs : SlR rXConfig w O a_a_configs c_a_configs a.configs) (f_a_segments : SlR rXSegment w O a_a_segments c_a_segments a.segments) (f_a_routes : SlR rXRoute w O a_a_routes c_a_routes a.routes) (f_a_airports : SlR rXAirport w O a_a_airports c_a_airports a.airports) (f_a_classes : SlR rXClass w O a_a_classes c_a_classes a.classes) (f_a_rules : SlR rXRule w O a_a_rules c_a_rules a.rules) (r_from_ : InK .i64 from_) (r_to : InK .i64 to) {x : Bool} (hm : m5_overflightlaw10_ConfigsPathSpec a from_ to = some x) :
  Ok Try.prog 5 [(Value.agg [(Value.slice a_a_volumes a.volumes.length c_a_volumes), (Value.slice a_a_sectors a.sectors.length c_a_sectors), (Value.slice a_a_configs a.configs.length c_a_configs), (Value.slice a_a_segments a.segments.length c_a_segments), (Value.slice a_a_routes a.routes.length c_a_routes), (Value.slice a_a_airports a.airports.length c_a_airports), (Value.slice a_a_classes a.classes.length c_a_classes), (Value.slice a_a_rules a.rules.length c_a_rules)].toArray), (Value.int .i64 from_), (Value.int .i64 to)] w O vB x := by
 unfold m5_overflightlaw10_ConfigsPathSpec at hm
 refine Fn_of_Wp (n := 89) (xs := [.tmp 6]) Try.func5 rfl Try.ntmps5 Try.results5 rfl ?_
 have hs := St.start hO
 refine Wp_seq ?_
 refine Wp_region ?_
 refine Rg_op rfl (op_box (cs := [(Value.slice a_a_volumes a.volumes.length c_a_volumes), (Value.slice a_a_sectors a.sectors.length c_a_sectors), (Value.slice a_a_configs a.configs.length c_a_configs), (Value.slice a_a_segments a.segments.length c_a_segments), (Value.slice a_a_routes a.routes.length c_a_routes), (Value.slice a_a_airports a.airports.length c_a_airports), (Value.slice a_a_classes a.classes.length c_a_classes), (Value.slice a_a_rules a.rules.length c_a_rules)]) hs rfl rfl ?_)
 intro b1 w2 _ p3 hs4
 replace f_a_volumes := f_a_volumes.step p3; replace f_a_sectors := f_a_sectors.step p3; replace f_a_configs := f_a_configs.step p3; replace f_a_segments := f_a_segments.step p3; replace f_a_routes := f_a_routes.step p3; replace f_a_airports := f_a_airports.step p3; replace f_a_classes := f_a_classes.step p3; replace f_a_rules := f_a_rules.step p3; clear p3
 refine Rg_op rfl (op_assign (v := (Value.bool false)) rfl ?_)
 refine Rg_nil ?_
 refine Wp_seq ?_
 refine Wp_seq ?_
 refine Wp_region ?_
 replace hm := bd hm; obtain ⟨sane_1, hv6, hm⟩ := hm
 refine Rg_op rfl (op_call Try.call11 (c11_overflightlaw10_sane  hs4.ltw  hv6) rfl ?_)
 rintro v7 w8 ⟨hx9, h10⟩
 have hs11 := hs4.call hx9
 have p12 := Step.ext (O := ks [(some b1, Obj.cells [(Value.slice a_a_volumes a.volumes.length c_a_volumes), (Value.slice a_a_sectors a.sectors.length c_a_sectors), (Value.slice a_a_configs a.configs.length c_a_configs), (Value.slice a_a_segments a.segments.length c_a_segments), (Value.slice a_a_routes a.routes.length c_a_routes), (Value.slice a_a_airports a.airports.length c_a_airports), (Value.slice a_a_classes a.classes.length c_a_classes), (Value.slice a_a_rules a.rules.length c_a_rules)].toArray 31)] O) hx9
 clear hx9
 replace f_a_volumes := f_a_volumes.step p12; replace f_a_sectors := f_a_sectors.step p12; replace f_a_configs := f_a_configs.step p12; replace f_a_segments := f_a_segments.step p12; replace f_a_routes := f_a_routes.step p12; replace f_a_airports := f_a_airports.step p12; replace f_a_classes := f_a_classes.step p12; replace f_a_rules := f_a_rules.step p12; clear p12 hs4
 obtain rfl := h10
 refine Rg_op rfl (op_not rfl ?_)
 refine Rg_nil ?_
 refine Wp_cond rfl (fun hc14 => ?_) (fun hc14 => ?_)
 ·
  replace hm := bif_t hm hc14
  refine Wp_seq ?_
  obtain ⟨hs15, p16⟩ := hs11.sub (bs' := []) (.cons _ List.Sublist.slnil)
  clear f_a_volumes f_a_sectors f_a_configs f_a_segments f_a_routes f_a_airports f_a_classes f_a_rules
  clear p16 hs11
  refine Wp_region ?_
  refine Rg_op rfl (op_assign (v := (Value.bool false)) rfl ?_)
  refine Rg_nil ?_
  refine Wp_ret ?_
  have hz := step_all hs15
  refine ⟨_, (show Closes [] _ _ from rfl), [(Value.bool false)], ⟨rfl, trivial⟩, hs15.ext, ?_⟩
  exact Vr.eq (a := vB) (x := false) rfl (Option.some.inj hm)
 ·
  replace hm := bif_f hm hc14
  refine Wp_skip ?_
  refine Wp_seq ?_
  refine Wp_seq ?_
  refine Wp_region ?_
  refine Rg_op rfl (op_loadA (cs := [(Value.slice a_a_volumes a.volumes.length c_a_volumes), (Value.slice a_a_sectors a.sectors.length c_a_sectors), (Value.slice a_a_configs a.configs.length c_a_configs), (Value.slice a_a_segments a.segments.length c_a_segments), (Value.slice a_a_routes a.routes.length c_a_routes), (Value.slice a_a_airports a.airports.length c_a_airports), (Value.slice a_a_classes a.classes.length c_a_classes), (Value.slice a_a_rules a.rules.length c_a_rules)]) (vs := [(Value.slice a_a_volumes a.volumes.length c_a_volumes), (Value.slice a_a_sectors a.sectors.length c_a_sectors), (Value.slice a_a_configs a.configs.length c_a_configs), (Value.slice a_a_segments a.segments.length c_a_segments), (Value.slice a_a_routes a.routes.length c_a_routes), (Value.slice a_a_airports a.airports.length c_a_airports), (Value.slice a_a_classes a.classes.length c_a_classes), (Value.slice a_a_rules a.rules.length c_a_rules)]) (i := 0) ty31 hs11 rfl rfl rfl rfl ?_)
  replace hm := bd hm; obtain ⟨few_1, hv17, hm⟩ := hm
  refine Rg_op rfl (op_call Try.call12 (c12_overflightref10_Few (a := a) hs11.ltw f_a_volumes f_a_sectors f_a_configs f_a_segments f_a_routes f_a_airports f_a_classes f_a_rules hv17) rfl ?_)
  rintro v18 w19 ⟨hx20, h21⟩
  have hs22 := hs11.call hx20
  have p23 := Step.ext (O := ks [(some b1, Obj.cells [(Value.slice a_a_volumes a.volumes.length c_a_volumes), (Value.slice a_a_sectors a.sectors.length c_a_sectors), (Value.slice a_a_configs a.configs.length c_a_configs), (Value.slice a_a_segments a.segments.length c_a_segments), (Value.slice a_a_routes a.routes.length c_a_routes), (Value.slice a_a_airports a.airports.length c_a_airports), (Value.slice a_a_classes a.classes.length c_a_classes), (Value.slice a_a_rules a.rules.length c_a_rules)].toArray 31)] O) hx20
  clear hx20
  replace f_a_volumes := f_a_volumes.step p23; replace f_a_sectors := f_a_sectors.step p23; replace f_a_configs := f_a_configs.step p23; replace f_a_segments := f_a_segments.step p23; replace f_a_routes := f_a_routes.step p23; replace f_a_airports := f_a_airports.step p23; replace f_a_classes := f_a_classes.step p23; replace f_a_rules := f_a_rules.step p23; clear p23 hs11
  obtain rfl := h21
  refine Rg_op rfl (op_not rfl ?_)
  refine Rg_nil ?_
  refine Wp_cond rfl (fun hc25 => ?_) (fun hc25 => ?_)
  ·
   replace hm := bif_t hm hc25
   refine Wp_seq ?_
   obtain ⟨hs26, p27⟩ := hs22.sub (bs' := []) (.cons _ List.Sublist.slnil)
   clear f_a_volumes f_a_sectors f_a_configs f_a_segments f_a_routes f_a_airports f_a_classes f_a_rules
   clear p27 hs22
   refine Wp_region ?_
   refine Rg_op rfl (op_assign (v := (Value.bool true)) rfl ?_)
   refine Rg_nil ?_
   refine Wp_ret ?_
   have hz := step_all hs26
   refine ⟨_, (show Closes [] _ _ from rfl), [(Value.bool true)], ⟨rfl, trivial⟩, hs26.ext, ?_⟩
   exact Vr.eq (a := vB) (x := true) rfl (Option.some.inj hm)
  ·
   replace hm := bif_f hm hc25
   refine Wp_skip ?_
   refine Wp_seq ?_
   refine Wp_region ?_
   refine Rg_op rfl (op_loadA (cs := [(Value.slice a_a_volumes a.volumes.length c_a_volumes), (Value.slice a_a_sectors a.sectors.length c_a_sectors), (Value.slice a_a_configs a.configs.length c_a_configs), (Value.slice a_a_segments a.segments.length c_a_segments), (Value.slice a_a_routes a.routes.length c_a_routes), (Value.slice a_a_airports a.airports.length c_a_airports), (Value.slice a_a_classes a.classes.length c_a_classes), (Value.slice a_a_rules a.rules.length c_a_rules)]) (vs := [(Value.slice a_a_volumes a.volumes.length c_a_volumes), (Value.slice a_a_sectors a.sectors.length c_a_sectors), (Value.slice a_a_configs a.configs.length c_a_configs), (Value.slice a_a_segments a.segments.length c_a_segments), (Value.slice a_a_routes a.routes.length c_a_routes), (Value.slice a_a_airports a.airports.length c_a_airports), (Value.slice a_a_classes a.classes.length c_a_classes), (Value.slice a_a_rules a.rules.length c_a_rules)]) (i := 0) ty31 hs22 rfl rfl rfl rfl ?_)
   refine Rg_op rfl (op_move (v := (Value.int .i64 from_)) rfl ?_)
   refine Rg_op rfl (op_move (v := (Value.int .i64 to)) rfl ?_)
   replace hm := bd hm; obtain ⟨path_1, hv28, hm⟩ := hm
   refine Rg_op rfl (op_call Try.call22 (c22_configs_Path (a := a) (from_ := from_) (to := to) hs22.ltw f_a_volumes f_a_sectors f_a_configs f_a_segments f_a_routes f_a_airports f_a_classes f_a_rules r_from_ r_to hv28) rfl ?_)
   rintro v29 w30 ⟨hx31, h32⟩
   have hs33 := hs22.call hx31
   have p34 := Step.ext (O := ks [(some b1, Obj.cells [(Value.slice a_a_volumes a.volumes.length c_a_volumes), (Value.slice a_a_sectors a.sectors.length c_a_sectors), (Value.slice a_a_configs a.configs.length c_a_configs), (Value.slice a_a_segments a.segments.length c_a_segments), (Value.slice a_a_routes a.routes.length c_a_routes), (Value.slice a_a_airports a.airports.length c_a_airports), (Value.slice a_a_classes a.classes.length c_a_classes), (Value.slice a_a_rules a.rules.length c_a_rules)].toArray 31)] O) hx31
   clear hx31
   replace f_a_volumes := f_a_volumes.step p34; replace f_a_sectors := f_a_sectors.step p34; replace f_a_configs := f_a_configs.step p34; replace f_a_segments := f_a_segments.step p34; replace f_a_routes := f_a_routes.step p34; replace f_a_airports := f_a_airports.step p34; replace f_a_classes := f_a_classes.step p34; replace f_a_rules := f_a_rules.step p34; clear p34 hs22
   obtain ⟨v35, v36, v37, rfl, h38, h39, h40⟩ := h32
   obtain ⟨a_y41, c_y41, rfl, f_y41⟩ := un_sl h38
   obtain rfl := h39
   obtain ⟨rfl, r_y43⟩ := h40
   refine Rg_op rfl (op_move (v := (Value.tuple [(Value.slice a_y41 path_1.1.length c_y41), (Value.bool path_1.2.1), (Value.int .i64 path_1.2.2)].toArray)) rfl ?_)
   refine Rg_op rfl (op_extract (v := (Value.slice a_y41 path_1.1.length c_y41)) rfl rfl ?_)
   refine Rg_op rfl (op_extract (v := (Value.bool path_1.2.1)) rfl rfl ?_)
   refine Rg_op rfl (op_extract (v := (Value.int .i64 path_1.2.2)) rfl rfl ?_)
   refine Rg_op rfl (op_assign (v := (Value.slice a_y41 path_1.1.length c_y41)) rfl ?_)
   refine Rg_op rfl (op_assign (v := (Value.bool path_1.2.1)) rfl ?_)
   refine Rg_op rfl (op_assign (v := (Value.int .i64 path_1.2.2)) rfl ?_)
   refine Rg_nil ?_
   refine Wp_seq ?_
   refine Wp_region ?_
   refine Rg_op rfl (op_loadA (cs := [(Value.slice a_a_volumes a.volumes.length c_a_volumes), (Value.slice a_a_sectors a.sectors.length c_a_sectors), (Value.slice a_a_configs a.configs.length c_a_configs), (Value.slice a_a_segments a.segments.length c_a_segments), (Value.slice a_a_routes a.routes.length c_a_routes), (Value.slice a_a_airports a.airports.length c_a_airports), (Value.slice a_a_classes a.classes.length c_a_classes), (Value.slice a_a_rules a.rules.length c_a_rules)]) (vs := [(Value.slice a_a_volumes a.volumes.length c_a_volumes), (Value.slice a_a_sectors a.sectors.length c_a_sectors), (Value.slice a_a_configs a.configs.length c_a_configs), (Value.slice a_a_segments a.segments.length c_a_segments), (Value.slice a_a_routes a.routes.length c_a_routes), (Value.slice a_a_airports a.airports.length c_a_airports), (Value.slice a_a_classes a.classes.length c_a_classes), (Value.slice a_a_rules a.rules.length c_a_rules)]) (i := 0) ty31 hs33 rfl rfl rfl rfl ?_)
   refine Rg_op rfl (op_move (v := (Value.int .i64 from_)) rfl ?_)
   refine Rg_op rfl (op_move (v := (Value.int .i64 to)) rfl ?_)
   replace hm := bd hm; obtain ⟨path_2, hv44, hm⟩ := hm
   refine Rg_op rfl (op_call Try.call23 (c23_overflightref10_Path (a := a) (from_ := from_) (to := to) hs33.ltw f_a_volumes f_a_sectors f_a_configs f_a_segments f_a_routes f_a_airports f_a_classes f_a_rules r_from_ r_to hv44) rfl ?_)
   rintro v45 w46 ⟨hx47, h48⟩
   have hs49 := hs33.call hx47
   have p50 := Step.ext (O := ks [(some b1, Obj.cells [(Value.slice a_a_volumes a.volumes.length c_a_volumes), (Value.slice a_a_sectors a.sectors.length c_a_sectors), (Value.slice a_a_configs a.configs.length c_a_configs), (Value.slice a_a_segments a.segments.length c_a_segments), (Value.slice a_a_routes a.routes.length c_a_routes), (Value.slice a_a_airports a.airports.length c_a_airports), (Value.slice a_a_classes a.classes.length c_a_classes), (Value.slice a_a_rules a.rules.length c_a_rules)].toArray 31)] O) hx47
   clear hx47
   replace f_a_volumes := f_a_volumes.step p50; replace f_a_sectors := f_a_sectors.step p50; replace f_a_configs := f_a_configs.step p50; replace f_a_segments := f_a_segments.step p50; replace f_a_routes := f_a_routes.step p50; replace f_a_airports := f_a_airports.step p50; replace f_a_classes := f_a_classes.step p50; replace f_a_rules := f_a_rules.step p50; replace f_y41 := f_y41.step p50; clear p50 hs33
   obtain ⟨v51, v52, v53, rfl, h54, h55, h56⟩ := h48
   obtain ⟨a_y57, c_y57, rfl, f_y57⟩ := un_sl h54
   obtain rfl := h55
   obtain ⟨rfl, r_y59⟩ := h56
   refine Rg_op rfl (op_move (v := (Value.tuple [(Value.slice a_y57 path_2.1.length c_y57), (Value.bool path_2.2.1), (Value.int .i64 path_2.2.2)].toArray)) rfl ?_)
   refine Rg_op rfl (op_extract (v := (Value.slice a_y57 path_2.1.length c_y57)) rfl rfl ?_)
   refine Rg_op rfl (op_extract (v := (Value.bool path_2.2.1)) rfl rfl ?_)
   refine Rg_op rfl (op_extract (v := (Value.int .i64 path_2.2.2)) rfl rfl ?_)
   refine Rg_op rfl (op_assign (v := (Value.slice a_y57 path_2.1.length c_y57)) rfl ?_)
   refine Rg_op rfl (op_assign (v := (Value.bool path_2.2.1)) rfl ?_)
   refine Rg_op rfl (op_assign (v := (Value.int .i64 path_2.2.2)) rfl ?_)
   refine Rg_nil ?_
   refine Wp_seq ?_
   refine Wp_reset [] [(3, (Value.pointer (some ⟨b1, 0, none⟩))), (7, (Value.slice a_y41 path_1.1.length c_y41)), (8, (Value.bool path_1.2.1)), (9, (Value.int .i64 path_1.2.2)), (10, (Value.slice a_y57 path_2.1.length c_y57)), (11, (Value.bool path_2.2.1)), (12, (Value.int .i64 path_2.2.2))] rfl ⟨rfl, rfl, rfl, rfl, rfl, rfl, rfl, trivial⟩ fun ξ60 => ?_
   refine Wp_region ?_
   refine Rg_op rfl (op_loadA (cs := [(Value.slice a_a_volumes a.volumes.length c_a_volumes), (Value.slice a_a_sectors a.sectors.length c_a_sectors), (Value.slice a_a_configs a.configs.length c_a_configs), (Value.slice a_a_segments a.segments.length c_a_segments), (Value.slice a_a_routes a.routes.length c_a_routes), (Value.slice a_a_airports a.airports.length c_a_airports), (Value.slice a_a_classes a.classes.length c_a_classes), (Value.slice a_a_rules a.rules.length c_a_rules)]) (vs := [(Value.slice a_a_volumes a.volumes.length c_a_volumes), (Value.slice a_a_sectors a.sectors.length c_a_sectors), (Value.slice a_a_configs a.configs.length c_a_configs), (Value.slice a_a_segments a.segments.length c_a_segments), (Value.slice a_a_routes a.routes.length c_a_routes), (Value.slice a_a_airports a.airports.length c_a_airports), (Value.slice a_a_classes a.classes.length c_a_classes), (Value.slice a_a_rules a.rules.length c_a_rules)]) (i := 0) ty31 hs49 rfl rfl rfl rfl ?_)
   replace hm := bd hm; obtain ⟨stuck_1, hv61, hm⟩ := hm
   refine Rg_op rfl (op_call Try.call24 (c24_configs_Stuck (a := a) hs49.ltw f_a_volumes f_a_sectors f_a_configs f_a_segments f_a_routes f_a_airports f_a_classes f_a_rules hv61) rfl ?_)
   rintro v62 w63 ⟨hx64, h65⟩
   have hs66 := hs49.call hx64
   have p67 := Step.ext (O := ks [(some b1, Obj.cells [(Value.slice a_a_volumes a.volumes.length c_a_volumes), (Value.slice a_a_sectors a.sectors.length c_a_sectors), (Value.slice a_a_configs a.configs.length c_a_configs), (Value.slice a_a_segments a.segments.length c_a_segments), (Value.slice a_a_routes a.routes.length c_a_routes), (Value.slice a_a_airports a.airports.length c_a_airports), (Value.slice a_a_classes a.classes.length c_a_classes), (Value.slice a_a_rules a.rules.length c_a_rules)].toArray 31)] O) hx64
   clear hx64
   replace f_a_volumes := f_a_volumes.step p67; replace f_a_sectors := f_a_sectors.step p67; replace f_a_configs := f_a_configs.step p67; replace f_a_segments := f_a_segments.step p67; replace f_a_routes := f_a_routes.step p67; replace f_a_airports := f_a_airports.step p67; replace f_a_classes := f_a_classes.step p67; replace f_a_rules := f_a_rules.step p67; replace f_y41 := f_y41.step p67; replace f_y57 := f_y57.step p67; clear p67 hs49
   obtain ⟨v68, v69, v70, v71, rfl, h72, h73, h74, h75⟩ := h65
   obtain ⟨rfl, r_y76⟩ := h72
   obtain ⟨rfl, r_y77⟩ := h73
   obtain rfl := h74
   obtain ⟨rfl, r_y79⟩ := h75
   refine Rg_op rfl (op_move (v := (Value.tuple [(Value.int .i64 stuck_1.1), (Value.int .i64 stuck_1.2.1), (Value.bool stuck_1.2.2.1), (Value.int .i64 stuck_1.2.2.2)].toArray)) rfl ?_)
   refine Rg_op rfl (op_extract (v := (Value.int .i64 stuck_1.1)) rfl rfl ?_)
   refine Rg_op rfl (op_extract (v := (Value.int .i64 stuck_1.2.1)) rfl rfl ?_)
   refine Rg_op rfl (op_extract (v := (Value.bool stuck_1.2.2.1)) rfl rfl ?_)
   refine Rg_op rfl (op_extract (v := (Value.int .i64 stuck_1.2.2.2)) rfl rfl ?_)
   refine Rg_op rfl (op_assign (v := (Value.int .i64 stuck_1.1)) rfl ?_)
   refine Rg_op rfl (op_assign (v := (Value.int .i64 stuck_1.2.1)) rfl ?_)
   refine Rg_op rfl (op_assign (v := (Value.bool stuck_1.2.2.1)) rfl ?_)
   refine Rg_op rfl (op_assign (v := (Value.int .i64 stuck_1.2.2.2)) rfl ?_)
   refine Rg_nil ?_
   refine Wp_seq ?_
   refine Wp_region ?_
   refine Rg_op rfl (op_loadA (cs := [(Value.slice a_a_volumes a.volumes.length c_a_volumes), (Value.slice a_a_sectors a.sectors.length c_a_sectors), (Value.slice a_a_configs a.configs.length c_a_configs), (Value.slice a_a_segments a.segments.length c_a_segments), (Value.slice a_a_routes a.routes.length c_a_routes), (Value.slice a_a_airports a.airports.length c_a_airports), (Value.slice a_a_classes a.classes.length c_a_classes), (Value.slice a_a_rules a.rules.length c_a_rules)]) (vs := [(Value.slice a_a_volumes a.volumes.length c_a_volumes), (Value.slice a_a_sectors a.sectors.length c_a_sectors), (Value.slice a_a_configs a.configs.length c_a_configs), (Value.slice a_a_segments a.segments.length c_a_segments), (Value.slice a_a_routes a.routes.length c_a_routes), (Value.slice a_a_airports a.airports.length c_a_airports), (Value.slice a_a_classes a.classes.length c_a_classes), (Value.slice a_a_rules a.rules.length c_a_rules)]) (i := 0) ty31 hs66 rfl rfl rfl rfl ?_)
   replace hm := bd hm; obtain ⟨stuck_2, hv80, hm⟩ := hm
   refine Rg_op rfl (op_call Try.call25 (c25_overflightref10_Stuck (a := a) hs66.ltw f_a_volumes f_a_sectors f_a_configs f_a_segments f_a_routes f_a_airports f_a_classes f_a_rules hv80) rfl ?_)
   rintro v81 w82 ⟨hx83, h84⟩
   have hs85 := hs66.call hx83
   have p86 := Step.ext (O := ks [(some b1, Obj.cells [(Value.slice a_a_volumes a.volumes.length c_a_volumes), (Value.slice a_a_sectors a.sectors.length c_a_sectors), (Value.slice a_a_configs a.configs.length c_a_configs), (Value.slice a_a_segments a.segments.length c_a_segments), (Value.slice a_a_routes a.routes.length c_a_routes), (Value.slice a_a_airports a.airports.length c_a_airports), (Value.slice a_a_classes a.classes.length c_a_classes), (Value.slice a_a_rules a.rules.length c_a_rules)].toArray 31)] O) hx83
   clear hx83
   replace f_a_volumes := f_a_volumes.step p86; replace f_a_sectors := f_a_sectors.step p86; replace f_a_configs := f_a_configs.step p86; replace f_a_segments := f_a_segments.step p86; replace f_a_routes := f_a_routes.step p86; replace f_a_airports := f_a_airports.step p86; replace f_a_classes := f_a_classes.step p86; replace f_a_rules := f_a_rules.step p86; replace f_y41 := f_y41.step p86; replace f_y57 := f_y57.step p86; clear p86 hs66
   obtain ⟨v87, v88, v89, v90, rfl, h91, h92, h93, h94⟩ := h84
   obtain ⟨rfl, r_y95⟩ := h91
   obtain ⟨rfl, r_y96⟩ := h92
   obtain rfl := h93
   obtain ⟨rfl, r_y98⟩ := h94
   refine Rg_op rfl (op_move (v := (Value.tuple [(Value.int .i64 stuck_2.1), (Value.int .i64 stuck_2.2.1), (Value.bool stuck_2.2.2.1), (Value.int .i64 stuck_2.2.2.2)].toArray)) rfl ?_)
   refine Rg_op rfl (op_extract (v := (Value.int .i64 stuck_2.1)) rfl rfl ?_)
   refine Rg_op rfl (op_extract (v := (Value.int .i64 stuck_2.2.1)) rfl rfl ?_)
   refine Rg_op rfl (op_extract (v := (Value.bool stuck_2.2.2.1)) rfl rfl ?_)
   refine Rg_op rfl (op_extract (v := (Value.int .i64 stuck_2.2.2.2)) rfl rfl ?_)
   refine Rg_op rfl (op_assign (v := (Value.int .i64 stuck_2.1)) rfl ?_)
   refine Rg_op rfl (op_assign (v := (Value.int .i64 stuck_2.2.1)) rfl ?_)
   refine Rg_op rfl (op_assign (v := (Value.bool stuck_2.2.2.1)) rfl ?_)
   refine Rg_op rfl (op_assign (v := (Value.int .i64 stuck_2.2.2.2)) rfl ?_)
   refine Rg_nil ?_
   refine Wp_reset [] [(7, (Value.slice a_y41 path_1.1.length c_y41)), (8, (Value.bool path_1.2.1)), (9, (Value.int .i64 path_1.2.2)), (10, (Value.slice a_y57 path_2.1.length c_y57)), (11, (Value.bool path_2.2.1)), (12, (Value.int .i64 path_2.2.2)), (13, (Value.int .i64 stuck_1.1)), (14, (Value.int .i64 stuck_1.2.1)), (15, (Value.bool stuck_1.2.2.1)), (16, (Value.int .i64 stuck_1.2.2.2)), (17, (Value.int .i64 stuck_2.1)), (18, (Value.int .i64 stuck_2.2.1)), (19, (Value.bool stuck_2.2.2.1)), (20, (Value.int .i64 stuck_2.2.2.2))] rfl ⟨rfl, rfl, rfl, rfl, rfl, rfl, rfl, rfl, rfl, rfl, rfl, rfl, rfl, rfl, trivial⟩ fun ξ99 => ?_
   replace hm := jn_elim hm; obtain ⟨k101, hk102, hm⟩ := hm
   refine Wp_seqJ [6, 56, 57, 58, 59, 60, 61, 62, 63, 64, 65, 66, 67, 68, 69, 70, 71, 72, 73, 74, 75, 76, 77, 78, 79, 80, 81, 82, 83, 84, 85, 86, 87, 88] (fun fr w' => ∃ (v_1 : Bool) (Ebs : Ents), Ebs = [(some b1, Obj.cells [(Value.slice a_a_volumes a.volumes.length c_a_volumes), (Value.slice a_a_sectors a.sectors.length c_a_sectors), (Value.slice a_a_configs a.configs.length c_a_configs), (Value.slice a_a_segments a.segments.length c_a_segments), (Value.slice a_a_routes a.routes.length c_a_routes), (Value.slice a_a_airports a.airports.length c_a_airports), (Value.slice a_a_classes a.classes.length c_a_classes), (Value.slice a_a_rules a.rules.length c_a_rules)].toArray 31)] ∧ fr [] [(6, (Value.bool v_1))] ∧ Step (ks [(some b1, Obj.cells [(Value.slice a_a_volumes a.volumes.length c_a_volumes), (Value.slice a_a_sectors a.sectors.length c_a_sectors), (Value.slice a_a_configs a.configs.length c_a_configs), (Value.slice a_a_segments a.segments.length c_a_segments), (Value.slice a_a_routes a.routes.length c_a_routes), (Value.slice a_a_airports a.airports.length c_a_airports), (Value.slice a_a_classes a.classes.length c_a_classes), (Value.slice a_a_rules a.rules.length c_a_rules)].toArray 31)] O) w82 (ks Ebs O) w' ∧ St ⟨w, [], []⟩ O w' Ebs ∧ k101 v_1 = some x) ?_ ?_
   ·
    rintro ρ108 w104 ⟨v_1, Ebs, hEbs, hfr107, hst106, hs105, hm⟩
    replace hm := jnE1 hk102 hm
    subst hEbs; rw [hfr107.eq]; clear hfr107
    replace f_a_volumes := f_a_volumes.step hst106; replace f_a_sectors := f_a_sectors.step hst106; replace f_a_configs := f_a_configs.step hst106; replace f_a_segments := f_a_segments.step hst106; replace f_a_routes := f_a_routes.step hst106; replace f_a_airports := f_a_airports.step hst106; replace f_a_classes := f_a_classes.step hst106; replace f_a_rules := f_a_rules.step hst106; replace f_y41 := f_y41.step hst106; replace f_y57 := f_y57.step hst106; clear hst106 hs85
    refine Wp_ret ?_
    have hz := step_all hs105
    replace f_a_volumes := f_a_volumes.step hz; replace f_a_sectors := f_a_sectors.step hz; replace f_a_configs := f_a_configs.step hz; replace f_a_segments := f_a_segments.step hz; replace f_a_routes := f_a_routes.step hz; replace f_a_airports := f_a_airports.step hz; replace f_a_classes := f_a_classes.step hz; replace f_a_rules := f_a_rules.step hz; replace f_y41 := f_y41.step hz; replace f_y57 := f_y57.step hz
    refine ⟨_, (show Closes [] _ _ from rfl), [(Value.bool v_1)], ⟨rfl, trivial⟩, hs105.ext, ?_⟩
    exact Vr.eq (a := vB) (x := v_1) rfl (Option.some.inj hm)
   ·
    intro K103 hK103
    have ch109 := Step.refl (ks [(some b1, Obj.cells [(Value.slice a_a_volumes a.volumes.length c_a_volumes), (Value.slice a_a_sectors a.sectors.length c_a_sectors), (Value.slice a_a_configs a.configs.length c_a_configs), (Value.slice a_a_segments a.segments.length c_a_segments), (Value.slice a_a_routes a.routes.length c_a_routes), (Value.slice a_a_airports a.airports.length c_a_airports), (Value.slice a_a_classes a.classes.length c_a_classes), (Value.slice a_a_rules a.rules.length c_a_rules)].toArray 31)] O) w82
    refine Wp_region ?_
    refine Rg_op rfl (op_move (v := (Value.slice a_y41 path_1.1.length c_y41)) rfl ?_)
    refine Rg_op rfl (op_move (v := (Value.slice a_y57 path_2.1.length c_y57)) rfl ?_)
    replace hm := bd hm; obtain ⟨sameints_1, hv110, hm⟩ := hm
    refine Rg_op rfl (op_call Try.call21 (c21_overflightref10_SameInts (a := path_1.1) (b := path_2.1) hs85.ltw f_y41 f_y57 hv110) rfl ?_)
    rintro v111 w112 ⟨hx113, h114⟩
    have hs115 := hs85.call hx113
    have p116 := Step.ext (O := ks [(some b1, Obj.cells [(Value.slice a_a_volumes a.volumes.length c_a_volumes), (Value.slice a_a_sectors a.sectors.length c_a_sectors), (Value.slice a_a_configs a.configs.length c_a_configs), (Value.slice a_a_segments a.segments.length c_a_segments), (Value.slice a_a_routes a.routes.length c_a_routes), (Value.slice a_a_airports a.airports.length c_a_airports), (Value.slice a_a_classes a.classes.length c_a_classes), (Value.slice a_a_rules a.rules.length c_a_rules)].toArray 31)] O) hx113
    clear hx113
    replace f_a_volumes := f_a_volumes.step p116; replace f_a_sectors := f_a_sectors.step p116; replace f_a_configs := f_a_configs.step p116; replace f_a_segments := f_a_segments.step p116; replace f_a_routes := f_a_routes.step p116; replace f_a_airports := f_a_airports.step p116; replace f_a_classes := f_a_classes.step p116; replace f_a_rules := f_a_rules.step p116; replace f_y41 := f_y41.step p116; replace f_y57 := f_y57.step p116; replace ch109 := ch109.trans p116; clear p116 hs85
    obtain rfl := h114
    refine Rg_op rfl (op_move (v := (Value.bool sameints_1)) rfl ?_)
    refine Rg_case (fun hg118 => ?_) (fun hg118 => ?_)
    ·
     replace hm := bif_t hm hg118
     refine Rg_opg rfl rfl rfl (op_move (v := (Value.bool path_1.2.1)) rfl ?_)
     refine Rg_opg rfl rfl rfl (op_move (v := (Value.bool path_2.2.1)) rfl ?_)
     refine Rg_opg rfl rfl rfl (op_eqb Try.underlying4 rfl rfl ?_)
     refine Rg_op rfl (op_pick_t (v := (Value.bool (path_1.2.1 == path_2.2.1))) rfl rfl ?_)
     refine Rg_op rfl (op_move (v := (Value.bool (path_1.2.1 == path_2.2.1))) rfl ?_)
     refine Rg_case (fun hg119 => ?_) (fun hg119 => ?_)
     ·
      replace hm := bif_t hm hg119
      refine Rg_opg rfl rfl rfl (op_move (v := (Value.int .i64 path_1.2.2)) rfl ?_)
      refine Rg_opg rfl rfl rfl (op_move (v := (Value.int .i64 path_2.2.2)) rfl ?_)
      refine Rg_opg rfl rfl rfl (op_eql rfl rfl ?_)
      refine Rg_op rfl (op_pick_t (v := (Value.bool (decide (path_1.2.2 = path_2.2.2)))) rfl rfl ?_)
      refine Rg_op rfl (op_move (v := (Value.bool (decide (path_1.2.2 = path_2.2.2)))) rfl ?_)
      refine Rg_case (fun hg120 => ?_) (fun hg120 => ?_)
      ·
       replace hm := bif_t hm hg120
       refine Rg_opg rfl rfl rfl (op_move (v := (Value.int .i64 stuck_1.1)) rfl ?_)
       refine Rg_opg rfl rfl rfl (op_move (v := (Value.int .i64 stuck_2.1)) rfl ?_)
       refine Rg_opg rfl rfl rfl (op_eql rfl rfl ?_)
       refine Rg_op rfl (op_pick_t (v := (Value.bool (decide (stuck_1.1 = stuck_2.1)))) rfl rfl ?_)
       refine Rg_op rfl (op_move (v := (Value.bool (decide (stuck_1.1 = stuck_2.1)))) rfl ?_)
       refine Rg_case (fun hg121 => ?_) (fun hg121 => ?_)
       ·
        replace hm := bif_t hm hg121
        refine Rg_opg rfl rfl rfl (op_move (v := (Value.int .i64 stuck_1.2.1)) rfl ?_)
        refine Rg_opg rfl rfl rfl (op_move (v := (Value.int .i64 stuck_2.2.1)) rfl ?_)
        refine Rg_opg rfl rfl rfl (op_eql rfl rfl ?_)
        refine Rg_op rfl (op_pick_t (v := (Value.bool (decide (stuck_1.2.1 = stuck_2.2.1)))) rfl rfl ?_)
        refine Rg_op rfl (op_move (v := (Value.bool (decide (stuck_1.2.1 = stuck_2.2.1)))) rfl ?_)
        refine Rg_case (fun hg122 => ?_) (fun hg122 => ?_)
        ·
         replace hm := bif_t hm hg122
         refine Rg_opg rfl rfl rfl (op_move (v := (Value.bool stuck_1.2.2.1)) rfl ?_)
         refine Rg_opg rfl rfl rfl (op_move (v := (Value.bool stuck_2.2.2.1)) rfl ?_)
         refine Rg_opg rfl rfl rfl (op_eqb Try.underlying4 rfl rfl ?_)
         refine Rg_op rfl (op_pick_t (v := (Value.bool (stuck_1.2.2.1 == stuck_2.2.2.1))) rfl rfl ?_)
         refine Rg_op rfl (op_move (v := (Value.bool (stuck_1.2.2.1 == stuck_2.2.2.1))) rfl ?_)
         refine Rg_case (fun hg123 => ?_) (fun hg123 => ?_)
         ·
          replace hm := bif_t hm hg123
          refine Rg_opg rfl rfl rfl (op_move (v := (Value.int .i64 stuck_1.2.2.2)) rfl ?_)
          refine Rg_opg rfl rfl rfl (op_move (v := (Value.int .i64 stuck_2.2.2.2)) rfl ?_)
          refine Rg_opg rfl rfl rfl (op_eql rfl rfl ?_)
          refine Rg_op rfl (op_pick_t (v := (Value.bool (decide (stuck_1.2.2.2 = stuck_2.2.2.2)))) rfl rfl ?_)
          refine Rg_op rfl (op_assign (v := (Value.bool (decide (stuck_1.2.2.2 = stuck_2.2.2.2)))) rfl ?_)
          refine Rg_nil ?_
          exact hK103 _ _ ⟨(decide (stuck_1.2.2.2 = stuck_2.2.2.2)), _, rfl, ⟨(by repeat (first | with_reducible exact Out.refl _ _ | refine Out.upd ?_ rfl | refine Out.updL ?_ rfl | refine Out.mix' ?_ rfl | exact Out.refl _ _)), rfl, rfl, trivial⟩, ch109, hs115, hm⟩
         ·
          replace hm := bif_f hm hg123
          iterate 3 refine Rg_opx rfl (asB_ne rfl rfl) rfl ?_
          refine Rg_op rfl (op_pick_f (v := (Value.bool false)) rfl rfl ?_)
          refine Rg_op rfl (op_assign (v := (Value.bool false)) rfl ?_)
          refine Rg_nil ?_
          exact hK103 _ _ ⟨false, _, rfl, ⟨(by repeat (first | with_reducible exact Out.refl _ _ | refine Out.upd ?_ rfl | refine Out.updL ?_ rfl | refine Out.mix' ?_ rfl | exact Out.refl _ _)), rfl, rfl, trivial⟩, ch109, hs115, hm⟩
        ·
         replace hm := bif_f hm hg122
         iterate 3 refine Rg_opx rfl (asB_ne rfl rfl) rfl ?_
         refine Rg_op rfl (op_pick_f (v := (Value.bool false)) rfl rfl ?_)
         refine Rg_op rfl (op_move (v := (Value.bool false)) rfl ?_)
         iterate 3 refine Rg_opx rfl (asB_ne rfl rfl) rfl ?_
         refine Rg_op rfl (op_pick_f (v := (Value.bool false)) rfl rfl ?_)
         refine Rg_op rfl (op_assign (v := (Value.bool false)) rfl ?_)
         refine Rg_nil ?_
         exact hK103 _ _ ⟨false, _, rfl, ⟨(by repeat (first | with_reducible exact Out.refl _ _ | refine Out.upd ?_ rfl | refine Out.updL ?_ rfl | refine Out.mix' ?_ rfl | exact Out.refl _ _)), rfl, rfl, trivial⟩, ch109, hs115, hm⟩
       ·
        replace hm := bif_f hm hg121
        iterate 3 refine Rg_opx rfl (asB_ne rfl rfl) rfl ?_
        refine Rg_op rfl (op_pick_f (v := (Value.bool false)) rfl rfl ?_)
        refine Rg_op rfl (op_move (v := (Value.bool false)) rfl ?_)
        iterate 3 refine Rg_opx rfl (asB_ne rfl rfl) rfl ?_
        refine Rg_op rfl (op_pick_f (v := (Value.bool false)) rfl rfl ?_)
        refine Rg_op rfl (op_move (v := (Value.bool false)) rfl ?_)
        iterate 3 refine Rg_opx rfl (asB_ne rfl rfl) rfl ?_
        refine Rg_op rfl (op_pick_f (v := (Value.bool false)) rfl rfl ?_)
        refine Rg_op rfl (op_assign (v := (Value.bool false)) rfl ?_)
        refine Rg_nil ?_
        exact hK103 _ _ ⟨false, _, rfl, ⟨(by repeat (first | with_reducible exact Out.refl _ _ | refine Out.upd ?_ rfl | refine Out.updL ?_ rfl | refine Out.mix' ?_ rfl | exact Out.refl _ _)), rfl, rfl, trivial⟩, ch109, hs115, hm⟩
      ·
       replace hm := bif_f hm hg120
       iterate 3 refine Rg_opx rfl (asB_ne rfl rfl) rfl ?_
       refine Rg_op rfl (op_pick_f (v := (Value.bool false)) rfl rfl ?_)
       refine Rg_op rfl (op_move (v := (Value.bool false)) rfl ?_)
       iterate 3 refine Rg_opx rfl (asB_ne rfl rfl) rfl ?_
       refine Rg_op rfl (op_pick_f (v := (Value.bool false)) rfl rfl ?_)
       refine Rg_op rfl (op_move (v := (Value.bool false)) rfl ?_)
       iterate 3 refine Rg_opx rfl (asB_ne rfl rfl) rfl ?_
       refine Rg_op rfl (op_pick_f (v := (Value.bool false)) rfl rfl ?_)
       refine Rg_op rfl (op_move (v := (Value.bool false)) rfl ?_)
       iterate 3 refine Rg_opx rfl (asB_ne rfl rfl) rfl ?_
       refine Rg_op rfl (op_pick_f (v := (Value.bool false)) rfl rfl ?_)
       refine Rg_op rfl (op_assign (v := (Value.bool false)) rfl ?_)
       refine Rg_nil ?_
       exact hK103 _ _ ⟨false, _, rfl, ⟨(by repeat (first | with_reducible exact Out.refl _ _ | refine Out.upd ?_ rfl | refine Out.updL ?_ rfl | refine Out.mix' ?_ rfl | exact Out.refl _ _)), rfl, rfl, trivial⟩, ch109, hs115, hm⟩
     ·
      replace hm := bif_f hm hg119
      iterate 3 refine Rg_opx rfl (asB_ne rfl rfl) rfl ?_
      refine Rg_op rfl (op_pick_f (v := (Value.bool false)) rfl rfl ?_)
      refine Rg_op rfl (op_move (v := (Value.bool false)) rfl ?_)
      iterate 3 refine Rg_opx rfl (asB_ne rfl rfl) rfl ?_
      refine Rg_op rfl (op_pick_f (v := (Value.bool false)) rfl rfl ?_)
      refine Rg_op rfl (op_move (v := (Value.bool false)) rfl ?_)
      iterate 3 refine Rg_opx rfl (asB_ne rfl rfl) rfl ?_
      refine Rg_op rfl (op_pick_f (v := (Value.bool false)) rfl rfl ?_)
      refine Rg_op rfl (op_move (v := (Value.bool false)) rfl ?_)
      iterate 3 refine Rg_opx rfl (asB_ne rfl rfl) rfl ?_
      refine Rg_op rfl (op_pick_f (v := (Value.bool false)) rfl rfl ?_)
      refine Rg_op rfl (op_move (v := (Value.bool false)) rfl ?_)
      iterate 3 refine Rg_opx rfl (asB_ne rfl rfl) rfl ?_
      refine Rg_op rfl (op_pick_f (v := (Value.bool false)) rfl rfl ?_)
      refine Rg_op rfl (op_assign (v := (Value.bool false)) rfl ?_)
      refine Rg_nil ?_
      exact hK103 _ _ ⟨false, _, rfl, ⟨(by repeat (first | with_reducible exact Out.refl _ _ | refine Out.upd ?_ rfl | refine Out.updL ?_ rfl | refine Out.mix' ?_ rfl | exact Out.refl _ _)), rfl, rfl, trivial⟩, ch109, hs115, hm⟩
    ·
     replace hm := bif_f hm hg118
     iterate 3 refine Rg_opx rfl (asB_ne rfl rfl) rfl ?_
     refine Rg_op rfl (op_pick_f (v := (Value.bool false)) rfl rfl ?_)
     refine Rg_op rfl (op_move (v := (Value.bool false)) rfl ?_)
     iterate 3 refine Rg_opx rfl (asB_ne rfl rfl) rfl ?_
     refine Rg_op rfl (op_pick_f (v := (Value.bool false)) rfl rfl ?_)
     refine Rg_op rfl (op_move (v := (Value.bool false)) rfl ?_)
     iterate 3 refine Rg_opx rfl (asB_ne rfl rfl) rfl ?_
     refine Rg_op rfl (op_pick_f (v := (Value.bool false)) rfl rfl ?_)
     refine Rg_op rfl (op_move (v := (Value.bool false)) rfl ?_)
     iterate 3 refine Rg_opx rfl (asB_ne rfl rfl) rfl ?_
     refine Rg_op rfl (op_pick_f (v := (Value.bool false)) rfl rfl ?_)
     refine Rg_op rfl (op_move (v := (Value.bool false)) rfl ?_)
     iterate 3 refine Rg_opx rfl (asB_ne rfl rfl) rfl ?_
     refine Rg_op rfl (op_pick_f (v := (Value.bool false)) rfl rfl ?_)
     refine Rg_op rfl (op_move (v := (Value.bool false)) rfl ?_)
     iterate 3 refine Rg_opx rfl (asB_ne rfl rfl) rfl ?_
     refine Rg_op rfl (op_pick_f (v := (Value.bool false)) rfl rfl ?_)
     refine Rg_op rfl (op_assign (v := (Value.bool false)) rfl ?_)
     refine Rg_nil ?_
     exact hK103 _ _ ⟨false, _, rfl, ⟨(by repeat (first | with_reducible exact Out.refl _ _ | refine Out.upd ?_ rfl | refine Out.updL ?_ rfl | refine Out.mix' ?_ rfl | exact Out.refl _ _)), rfl, rfl, trivial⟩, ch109, hs115, hm⟩

end Go.Fx



/- What the models of functions compute: loops over lists, checks, meetings. No program in sight. -/
set_option linter.unusedSimpArgs false
set_option linter.unusedVariables false
namespace Go.Fx
open Go Go.RowKit

section
variable {R α σ : Type}
@[simp] theorem jn_eq {κ : Type _} (k : κ) (f : κ → Option R) : jn k f = f k := rfl
theorem ck_eq {c : Prop} [Decidable c] {m : Option R} (h : c) : ck c m = m := if_pos h
@[simp] theorem ck_True {m : Option R} : ck True m = m := if_pos trivial
theorem wrapN {i : Nat} (h : i < 9223372036854775808) : IntKind.i64.wrap (i : Int) = (i : Int) := wrap_i64 (by omega) (by omega)
theorem wrapS {i : Nat} (h : i + 1 < 9223372036854775808) : IntKind.i64.wrap ((i : Int) + 1) = (i : Int) + 1 := wrap_i64 (by omega) (by omega)
/-- a loop that goes up an index over a list: L fuel index state -/
theorem up_list {L : Nat → Int → σ → Option R} (I : Nat → σ → Prop) (F : Nat → List α → σ → Option R) (l : List α) (hl : l.length < 9223372036854775807)
    (hE : ∀ n s, I l.length s → L (n + 1) (l.length : Nat) s = F l.length [] s)
    (hS : ∀ n (i : Nat) s x t, i < l.length → l[i]? = some x → IntKind.i64.wrap ((i : Int) + 1) = (i : Int) + 1 → I i s →
      (∀ s, I (i + 1) s → L n ((i : Int) + 1) s = F (i + 1) t s) → L (n + 1) (i : Int) s = F i (x :: t) s) :
    ∀ (fuel : Nat) s, l.length < fuel → I 0 s → L fuel 0 s = F 0 l s := by
  have main : ∀ (t : List α) (i fuel : Nat) s, l.drop i = t → i ≤ l.length → l.length - i < fuel → I i s → L fuel (i : Int) s = F i t s := by
    intro t
    induction t with
    | nil =>
      intro i fuel s hd hi hf hI
      have : i = l.length := by have := congrArg List.length hd; simp at this; omega
      subst this
      obtain ⟨n, rfl⟩ : ∃ n, fuel = n + 1 := ⟨fuel - 1, by omega⟩
      exact hE n s hI
    | cons x t ih =>
      intro i fuel s hd hi hf hI
      have hlt : i < l.length := by have := congrArg List.length hd; simp at this; omega
      obtain ⟨n, rfl⟩ : ∃ n, fuel = n + 1 := ⟨fuel - 1, by omega⟩
      have hx : l[i]? = some x := by rw [← List.head?_drop, hd]; rfl
      refine hS n i s x t hlt hx (wrapS (by omega)) hI fun s' hI' => (ih (i + 1) n s' ?_ (by omega) (by omega) hI')
      rw [← List.drop_drop, hd]; rfl
  intro fuel s hf hI
  exact main l 0 fuel s rfl (by omega) (by omega) hI

theorem getD_of {l : List α} {i : Nat} {x d : α} (h : l[i]? = some x) : l.getD i d = x := by simp [List.getD, h]

/-- a loop that goes up an index over a list, no state -/
theorem up_list0 {B : (Int → Option R) → Int → Option R} (F : List α → Option R) (l : List α) (hl : l.length < 9223372036854775807)
    (hE : ∀ sf, B sf (l.length : Nat) = F [])
    (hS : ∀ sf (i : Nat) x t, i < l.length → l[i]? = some x → IntKind.i64.wrap ((i : Int) + 1) = (i : Int) + 1 →
      sf ((i : Int) + 1) = F t → B sf (i : Int) = F (x :: t))
    {fuel : Nat} (hf : l.length < fuel) : loop1 B fuel 0 = F l := by
  refine up_list (L := fun n i (_ : Unit) => loop1 B n i) (fun _ _ => True) (fun _ t _ => F t) l hl ?_ ?_ fuel () hf trivial
  · intro n _ _; show loop1 B (n + 1) _ = _; rw [loop1_succ]; exact hE _
  · intro n i _ x t h1 h2 h3 _ ih; show loop1 B (n + 1) _ = _; rw [loop1_succ]; exact hS _ i x t h1 h2 h3 (ih () trivial)
/-- a state first, then the index -/
theorem up_listB {B : (σ → Int → Option R) → σ → Int → Option R} (I : Nat → σ → Prop) (F : Nat → List α → σ → Option R) (l : List α) (hl : l.length < 9223372036854775807)
    (hE : ∀ sf s, I l.length s → B sf s (l.length : Nat) = F l.length [] s)
    (hS : ∀ sf (i : Nat) s x t, i < l.length → l[i]? = some x → IntKind.i64.wrap ((i : Int) + 1) = (i : Int) + 1 → I i s →
      (∀ s, I (i + 1) s → sf s ((i : Int) + 1) = F (i + 1) t s) → B sf s (i : Int) = F i (x :: t) s)
    {fuel : Nat} {s : σ} (hf : l.length < fuel) (hI : I 0 s) : loop2 B fuel s 0 = F 0 l s := by
  refine up_list (L := fun n i s => loop2 B n s i) I F l hl ?_ ?_ fuel s hf hI
  · intro n s h; show loop2 B (n + 1) _ _ = _; rw [loop2_succ]; exact hE _ _ h
  · intro n i s x t h1 h2 h3 h4 ih; show loop2 B (n + 1) _ _ = _; rw [loop2_succ]; exact hS _ i s x t h1 h2 h3 h4 ih

/-- the same, where the answer needs the index -/
theorem up_listI {B : (Int → Option R) → Int → Option R} (F : Nat → List α → Option R) (l : List α) (hl : l.length < 9223372036854775807)
    (hE : ∀ sf, B sf (l.length : Nat) = F l.length [])
    (hS : ∀ sf (i : Nat) x t, i < l.length → l[i]? = some x → IntKind.i64.wrap ((i : Int) + 1) = (i : Int) + 1 →
      sf ((i : Int) + 1) = F (i + 1) t → B sf (i : Int) = F i (x :: t))
    {fuel : Nat} (hf : l.length < fuel) : loop1 B fuel 0 = F 0 l := by
  refine up_list (L := fun n i (_ : Unit) => loop1 B n i) (fun _ _ => True) (fun i t _ => F i t) l hl ?_ ?_ fuel () hf trivial
  · intro n _ _; show loop1 B (n + 1) _ = _; rw [loop1_succ]; exact hE _
  · intro n i _ x t h1 h2 h3 _ ih; show loop1 B (n + 1) _ = _; rw [loop1_succ]; exact hS _ i x t h1 h2 h3 (ih () trivial)
end
end Go.Fx



/- Chapter 10, no program in sight: a search in breadth, and what it finds. -/
set_option linter.unusedSimpArgs false
set_option linter.unusedVariables false
namespace Go.Fx
open Go Go.RowKit
/-- a look at neighbour i of at -/
def bstep (adj : Nat → Nat → Bool) (c : Nat) (s : List Int × List Nat) (i : Nat) : List Int × List Nat :=
  bif adj c i && decide (s.1.getD i default < 0) then (s.1.set i (s.1.getD c default + 1), s.2 ++ [i]) else s
def bfs (adj : Nat → Nat → Bool) (n : Nat) : Nat → List Int → List Nat → List Int
  | 0, d, _ => d
  | _ + 1, d, [] => d
  | f + 1, d, c :: q => bfs adj n f ((List.range n).foldl (bstep adj c) (d, q)).1 ((List.range n).foldl (bstep adj c) (d, q)).2
def vc (n : Nat) (d : List Int) : Nat := (List.range n).countP fun i => decide (0 ≤ d.getD i default)
/-- what is known while c's neighbours below m have been looked at -/
structure BJ (adj : Nat → Nat → Bool) (n to c m : Nat) (d : List Int) (q : List Nat) : Prop where
  len : d.length = n
  to0 : d.getD to default = 0
  tn : to < n
  ge : ∀ i < n, -1 ≤ d.getD i default
  bound : ∀ i < n, d.getD i default < vc n d
  qmem : ∀ x ∈ q, x < n ∧ 0 ≤ d.getD x default
  pred : ∀ i < n, 0 ≤ d.getD i default → i ≠ to → ∃ j < n, adj j i = true ∧ 0 ≤ d.getD j default ∧ d.getD i default = d.getD j default + 1
  cn : c < n
  cv : 0 ≤ d.getD c default
  cq : c ∉ q
  nd : q.Nodup
  near : ∀ i < n, 0 ≤ d.getD i default → i ∉ q → i ≠ c → ∀ j < n, adj i j = true → 0 ≤ d.getD j default ∧ d.getD j default ≤ d.getD i default + 1
  mid : ∀ j < m, adj c j = true → 0 ≤ d.getD j default
  low : ∀ x ∈ q, d.getD c default ≤ d.getD x default
  srt : q.Pairwise fun x y => d.getD x default ≤ d.getD y default
  top : ∀ x < n, d.getD x default ≤ d.getD c default + 1
structure BI (adj : Nat → Nat → Bool) (n to : Nat) (d : List Int) (q : List Nat) : Prop where
  len : d.length = n
  to0 : d.getD to default = 0
  tn : to < n
  ge : ∀ i < n, -1 ≤ d.getD i default
  bound : ∀ i < n, d.getD i default < vc n d
  qmem : ∀ x ∈ q, x < n ∧ 0 ≤ d.getD x default
  pred : ∀ i < n, 0 ≤ d.getD i default → i ≠ to → ∃ j < n, adj j i = true ∧ 0 ≤ d.getD j default ∧ d.getD i default = d.getD j default + 1
  nd : q.Nodup
  near : ∀ i < n, 0 ≤ d.getD i default → i ∉ q → ∀ j < n, adj i j = true → 0 ≤ d.getD j default ∧ d.getD j default ≤ d.getD i default + 1
  srt : q.Pairwise fun x y => d.getD x default ≤ d.getD y default
  top : ∀ h t, q = h :: t → ∀ x < n, d.getD x default ≤ d.getD h default + 1
variable {adj : Nat → Nat → Bool} {n to c m : Nat} {d : List Int} {q : List Nat}
theorem getD_setI {d : List Int} {i j : Nat} {v : Int} (h : i < d.length) : (d.set i v).getD j default = if i = j then v else d.getD j default := by
  by_cases e : i = j
  · subst e; simp [h]
  · simp [e, List.getElem?_set]
theorem vc_le (n : Nat) (d : List Int) : vc n d ≤ n := by
  unfold vc; have := List.countP_le_length (p := fun i => decide (0 ≤ d.getD i default)) (l := List.range n); simpa using this
theorem countP_flip {l : List Nat} {p r : Nat → Bool} {i : Nat} (hn : l.Nodup) (hi : i ∈ l) (hp : p i = false) (hr : r i = true) (h : ∀ j, j ≠ i → r j = p j) : l.countP r = l.countP p + 1 := by
  obtain ⟨l1, l2, rfl⟩ := List.append_of_mem hi
  have h1 : i ∉ l1 := fun hm => by
    rw [List.nodup_append] at hn
    exact hn.2.2 i hm i (by simp) rfl
  have h2 : i ∉ l2 := fun hm => by
    rw [List.nodup_append] at hn
    exact (List.nodup_cons.1 hn.2.1).1 hm
  have e1 : l1.countP r = l1.countP p := List.countP_congr fun j hj => by rw [h j fun e => h1 (e ▸ hj)]
  have e2 : l2.countP r = l2.countP p := List.countP_congr fun j hj => by rw [h j fun e => h2 (e ▸ hj)]
  rw [List.countP_append, List.countP_append, List.countP_cons, List.countP_cons, e1, e2, hp, hr]
  simp; omega
theorem vc_set {i : Nat} {v : Int} (hl : d.length = n) (hi : i < n) (hu : d.getD i default < 0) (hv : 0 ≤ v) : vc n (d.set i v) = vc n d + 1 := by
  unfold vc
  refine countP_flip (i := i) List.nodup_range (List.mem_range.2 hi) (by simpa using hu) ?_ fun j hj => ?_
  · simp only [getD_setI (show i < d.length by omega), if_true]; simpa using hv
  · simp only [getD_setI (show i < d.length by omega), if_neg (Ne.symm hj)]
theorem BJ.step (h : BJ adj n to c m d q) (hm : m < n) : BJ adj n to c (m + 1) (bstep adj c (d, q) m).1 (bstep adj c (d, q) m).2 := by
  unfold bstep
  cases hc : (adj c m && decide (d.getD m default < 0))
  · rw [cond_false]
    refine { h with mid := fun j hj ha => ?_ }
    by_cases e : j = m
    · subst e
      rw [ha, Bool.true_and] at hc
      simpa using hc
    · exact h.mid j (by omega) ha
  · rw [cond_true]
    simp only [Bool.and_eq_true, decide_eq_true_eq] at hc
    obtain ⟨ha, hu⟩ := hc
    have hml : m < d.length := by rw [h.len]; exact hm
    have hv : (0 : Int) ≤ d.getD c default + 1 := by have := h.cv; omega
    have g : ∀ j, (d.set m (d.getD c default + 1)).getD j default = if m = j then d.getD c default + 1 else d.getD j default := fun j => getD_setI hml
    have hold : ∀ j, 0 ≤ d.getD j default → (d.set m (d.getD c default + 1)).getD j default = d.getD j default := fun j hj => by
      rw [g, if_neg]; intro e; subst e; omega
    have hmt : m ≠ to := fun e => by subst e; have := h.to0; omega
    have hmc : m ≠ c := fun e => by subst e; have := h.cv; omega
    have hmq : m ∉ q := fun e => by have := (h.qmem m e).2; omega
    have hcc := hold c h.cv
    dsimp only
    refine ⟨by simpa using h.len, ?_, h.tn, ?_, ?_, ?_, ?_, h.cn, ?_, ?_, ?_, ?_, ?_, ?_, ?_, ?_⟩
    · rw [hold to (by have := h.to0; omega)]; exact h.to0
    · intro i hi; rw [g]; split
      · omega
      · exact h.ge i hi
    · intro i hi
      rw [vc_set h.len hm hu hv, g]
      have := h.bound i hi
      have := h.bound c h.cn
      split <;> omega
    · intro x hx
      rcases List.mem_append.1 hx with hx | hx
      · have := h.qmem x hx; rw [hold x this.2]; exact this
      · simp at hx; subst hx; rw [g, if_pos rfl]; exact ⟨hm, hv⟩
    · intro i hi h0 hne
      by_cases e : m = i
      · subst e; exact ⟨c, h.cn, ha, by rw [hcc]; exact h.cv, by rw [hcc, g, if_pos rfl]⟩
      · rw [g, if_neg e] at h0 ⊢
        obtain ⟨j, hj, h1, h2, h3⟩ := h.pred i hi h0 hne
        exact ⟨j, hj, h1, by rw [hold j h2]; exact h2, by rw [hold j h2]; exact h3⟩
    · rw [hcc]; exact h.cv
    · intro hx
      rcases List.mem_append.1 hx with hx | hx
      · exact h.cq hx
      · simp at hx; exact hmc hx.symm
    · rw [List.nodup_append]
      exact ⟨h.nd, by simp, fun a hax b hb => by simp at hb; rw [hb]; exact fun e => hmq (e ▸ hax)⟩
    · intro i hi h0 hq hic j hj haj
      have hiq : i ∉ q := fun hx => hq (List.mem_append_left _ hx)
      have hmi : m ≠ i := fun e => hq (List.mem_append_right _ (by simp [e]))
      rw [g, if_neg hmi] at h0
      have gi : (d.set m (d.getD c default + 1)).getD i default = d.getD i default := by rw [g, if_neg hmi]
      rw [gi]
      obtain ⟨h1, h2⟩ := h.near i hi h0 hiq hic j hj haj
      rw [hold j h1]; exact ⟨h1, h2⟩
    · intro j hj haj
      by_cases e : m = j
      · rw [g, if_pos e]; exact hv
      · have := h.mid j (by omega) haj
        rw [hold j this]; exact this
    · intro x hx
      rw [hcc]
      rcases List.mem_append.1 hx with hx | hx
      · rw [hold x (h.qmem x hx).2]; exact h.low x hx
      · simp at hx; subst hx; rw [g, if_pos rfl]; omega
    · rw [List.pairwise_append]
      refine ⟨?_, by simp, fun a hax b hb => ?_⟩
      · refine h.srt.imp_of_mem fun {a b} hax hbx hab => ?_
        rw [hold a (h.qmem a hax).2, hold b (h.qmem b hbx).2]; exact hab
      · simp at hb; rw [hb]
        rw [hold a (h.qmem a hax).2, g, if_pos rfl]
        exact h.top a (h.qmem a hax).1
    · intro x hx
      rw [hcc, g]; split
      · omega
      · exact h.top x hx
theorem BJ.start (h : BI adj n to d (c :: q)) : BJ adj n to c 0 d q := by
  have hc := h.qmem c (by simp)
  have hnd := List.nodup_cons.1 h.nd
  have hs := List.pairwise_cons.1 h.srt
  exact ⟨h.len, h.to0, h.tn, h.ge, h.bound, fun x hx => h.qmem x (by simp [hx]), h.pred, hc.1, hc.2, hnd.1, hnd.2, fun i hi h0 hq hic j hj ha => h.near i hi h0 (by simp [hq, hic]) j hj ha, fun j hj => by omega, hs.1, hs.2, h.top c q rfl⟩
theorem BJ.fin (h : BJ adj n to c n d q) : BI adj n to d q := by
  refine ⟨h.len, h.to0, h.tn, h.ge, h.bound, h.qmem, h.pred, h.nd, fun i hi h0 hq j hj ha => ?_, h.srt, fun x t e y hy => ?_⟩
  · by_cases e : i = c
    · subst e; exact ⟨h.mid j hj ha, h.top j hj⟩
    · exact h.near i hi h0 hq e j hj ha
  · subst e
    have := h.top y hy; have := h.low x (by simp); omega
theorem BJ.fold (h : BJ adj n to c m d q) : ∀ k, m + k = n → BI adj n to ((List.range' m k).foldl (bstep adj c) (d, q)).1 ((List.range' m k).foldl (bstep adj c) (d, q)).2 := by
  intro k
  induction k generalizing m d q with
  | zero => intro e; have : m = n := by omega
            subst this; exact h.fin
  | succ k ih =>
    intro e
    rw [List.range'_succ, List.foldl_cons]
    exact ih (h.step (by omega)) (by omega)
theorem BI.round (h : BI adj n to d (c :: q)) : BI adj n to ((List.range n).foldl (bstep adj c) (d, q)).1 ((List.range n).foldl (bstep adj c) (d, q)).2 := by
  rw [List.range_eq_range']; exact (BJ.start h).fold n (by omega)
/-- how much is left to do -/
theorem fold_meas (c : Nat) : ∀ (k m : Nat) (d : List Int) (q : List Nat), d.length = n → m + k = n → (∀ i < n, 0 ≤ d.getD c default) → 2 * (n - vc n ((List.range' m k).foldl (bstep adj c) (d, q)).1) + ((List.range' m k).foldl (bstep adj c) (d, q)).2.length ≤ 2 * (n - vc n d) + q.length ∧ ((List.range' m k).foldl (bstep adj c) (d, q)).1.length = n := by
  intro k
  induction k with
  | zero => intro m d q hl _ _; exact ⟨Nat.le_refl _, hl⟩
  | succ k ih =>
    intro m d q hl e hc
    rw [List.range'_succ, List.foldl_cons]
    unfold bstep
    cases hb : (adj c m && decide (d.getD m default < 0))
    · rw [cond_false]; exact ih (m + 1) d q hl (by omega) hc
    · rw [cond_true]
      simp only [Bool.and_eq_true, decide_eq_true_eq] at hb
      have hml : m < d.length := by omega
      have hc0 : 0 ≤ d.getD c default := hc m (by omega)
      have hv : (0 : Int) ≤ d.getD c default + 1 := by omega
      have := ih (m + 1) (d.set m (d.getD c default + 1)) (q ++ [m]) (by simpa using hl) (by omega) (fun i hi => by rw [getD_setI hml]; split <;> omega)
      rw [vc_set hl (by omega) hb.2 hv] at this
      have h1 := vc_le n (d.set m (d.getD c default + 1))
      rw [vc_set hl (by omega) hb.2 hv] at h1
      refine ⟨?_, this.2⟩
      have := this.1
      rw [List.length_append] at this
      simp only [List.length_cons, List.length_nil] at this
      exact Nat.le_trans this (by omega)
/-- the queue runs dry -/
theorem bfs_spec : ∀ (f : Nat) (d : List Int) (q : List Nat), BI adj n to d q → 2 * (n - vc n d) + q.length < f → BI adj n to (bfs adj n f d q) [] := by
  intro f
  induction f with
  | zero => intro d q _ hf; omega
  | succ f ih =>
    intro d q h hf
    cases q with
    | nil => exact h
    | cons c q =>
      unfold bfs
      have hm := fold_meas (adj := adj) (n := n) c n 0 d q h.len (by omega) fun i _ => (h.qmem c (by simp)).2
      rw [← List.range_eq_range'] at hm
      refine ih _ _ h.round ?_
      have := hm.1
      simp only [List.length_cons] at hf
      omega
def start (n to : Nat) : List Int := (List.replicate n (-1)).set to 0
theorem start_getD {i : Nat} (h : to < n) (hi : i < n) : (start n to).getD i default = if to = i then 0 else -1 := by
  unfold start
  rw [getD_setI (by simpa using h)]
  split
  · rfl
  · simp [hi]
theorem start_inv (adj : Nat → Nat → Bool) (h : to < n) : BI adj n to (start n to) [to] := by
  have g : ∀ i < n, (start n to).getD i default = if to = i then 0 else -1 := fun i hi => start_getD h hi
  have hv : 0 < vc n (start n to) := by
    unfold vc
    rw [List.countP_pos_iff]
    exact ⟨to, List.mem_range.2 h, by rw [g to h, if_pos rfl]; rfl⟩
  refine ⟨by simp [start], by rw [g to h, if_pos rfl], h, fun i hi => ?_, fun i hi => ?_, fun x hx => ?_, fun i hi h0 hne => ?_, by simp, fun i hi h0 hq => ?_, by simp, fun x t e y hy => ?_⟩
  · rw [g i hi]; split <;> omega
  · rw [g i hi]; split <;> omega
  · simp at hx; subst hx; exact ⟨h, by rw [g x h, if_pos rfl]; exact Int.le_refl _⟩
  · rw [g i hi, if_neg (Ne.symm hne)] at h0; omega
  · have : to ≠ i := fun e => hq (by simp [e])
    rw [g i hi, if_neg this] at h0; omega
  · simp at e; rw [← e.1, g to h, if_pos rfl, g y hy]; split <;> omega
/-- distances -/
structure Dist (adj : Nat → Nat → Bool) (n to : Nat) (d : List Int) : Prop where
  len : d.length = n
  to0 : d.getD to default = 0
  tn : to < n
  ge : ∀ i < n, -1 ≤ d.getD i default
  bound : ∀ i < n, d.getD i default < n
  pred : ∀ i < n, 0 ≤ d.getD i default → i ≠ to → ∃ j < n, adj j i = true ∧ 0 ≤ d.getD j default ∧ d.getD i default = d.getD j default + 1
  near : ∀ i < n, 0 ≤ d.getD i default → ∀ j < n, adj i j = true → 0 ≤ d.getD j default ∧ d.getD j default ≤ d.getD i default + 1
theorem bfs_dist {f : Nat} (h : to < n) (hf : 2 * n + 1 < f) : Dist adj n to (bfs adj n f (start n to) [to]) := by
  have := bfs_spec f _ _ (start_inv adj h) (by simp; omega)
  exact ⟨this.len, this.to0, this.tn, this.ge, fun i hi => by have h1 := this.bound i hi; have h2 := vc_le n (bfs adj n f (start n to) [to]); omega, this.pred, fun i hi h0 j hj ha => this.near i hi h0 (by simp) j hj ha⟩
/-- a way from i to j -/
inductive Conn (adj : Nat → Nat → Bool) (n : Nat) : Nat → Nat → Prop
  | refl {i : Nat} : i < n → Conn adj n i i
  | step {i j k : Nat} : Conn adj n i j → k < n → adj j k = true → Conn adj n i k
theorem Conn.lt {i j : Nat} (h : Conn adj n i j) : i < n ∧ j < n := by
  induction h with
  | refl h => exact ⟨h, h⟩
  | step _ hk _ ih => exact ⟨ih.1, hk⟩
theorem Conn.trans {i j k : Nat} (h : Conn adj n i j) (h2 : Conn adj n j k) : Conn adj n i k := by
  induction h2 with
  | refl _ => exact h
  | step _ hk ha ih => exact ih.step hk ha
theorem Conn.symm (hs : ∀ i < n, ∀ j < n, adj i j = adj j i) {i j : Nat} (h : Conn adj n i j) : Conn adj n j i := by
  induction h with
  | refl h => exact .refl h
  | step h1 hk ha ih =>
    have hj := h1.lt.2
    exact Conn.trans (.step (.refl hk) hj (by rw [← hs _ hj _ hk]; exact ha)) ih
theorem Dist.conn (h : Dist adj n to d) {i : Nat} (hi : i < n) : 0 ≤ d.getD i default ↔ Conn adj n to i := by
  constructor
  · have : ∀ (k : Nat) (i : Nat), i < n → 0 ≤ d.getD i default → d.getD i default = k → Conn adj n to i := by
      intro k
      induction k with
      | zero =>
        intro i hi h0 e
        by_cases ht : i = to
        · subst ht; exact .refl hi
        · obtain ⟨j, hj, _, h1, h2⟩ := h.pred i hi h0 ht; omega
      | succ k ih =>
        intro i hi h0 e
        by_cases ht : i = to
        · subst ht; exact .refl hi
        · obtain ⟨j, hj, ha, h1, h2⟩ := h.pred i hi h0 ht
          exact .step (ih j hj h1 (by omega)) hi ha
    intro h0
    exact this (d.getD i default).toNat i hi h0 (by omega)
  · intro hc
    induction hc with
    | refl _ => rw [h.to0]; exact Int.le_refl _
    | step h1 hk ha ih => exact (h.near _ h1.lt.2 (ih h1.lt.2) _ hk ha).1
end Go.Fx



/- Chapter 10, no program in sight: divisions, splits and merges. -/
set_option linter.unusedSimpArgs false
set_option linter.unusedVariables false
namespace Go.Fx
open Go Go.RowKit
/-- a division of nv volumes into sets -/
structure Part (nv : Nat) (K : List Nat) : Prop where
  nd : K.Nodup
  ne : ∀ m ∈ K, ∃ v < nv, m.testBit v = true
  hi : ∀ m ∈ K, ∀ v, m.testBit v = true → v < nv
  cov : ∀ v < nv, ∃ m ∈ K, m.testBit v = true
  dis : ∀ m ∈ K, ∀ m' ∈ K, ∀ v, m.testBit v = true → m'.testBit v = true → m = m'
def miss (K L : List Nat) : Nat := K.countP fun m => decide (m ∉ L)
def stepK (K L : List Nat) : Prop := (miss K L = 0 ∧ miss L K = 0) ∨ (miss K L = 1 ∧ miss L K = 2) ∨ (miss K L = 2 ∧ miss L K = 1)
def tog (K : List Nat) (v w : Nat) : Prop := ∃ m ∈ K, m.testBit v = true ∧ m.testBit w = true
def finerK (nv : Nat) (K L : List Nat) : Prop := ∀ v < nv, ∀ w < nv, tog K v w → tog L v w
theorem stepK_symm {K L : List Nat} : stepK K L ↔ stepK L K := by unfold stepK; omega
variable {nv : Nat} {K L : List Nat}
theorem finer_block (hK : Part nv K) (hL : Part nv L) (h : finerK nv K L) {m : Nat} (hm : m ∈ K) : ∃ b ∈ L, ∀ v, m.testBit v = true → b.testBit v = true := by
  obtain ⟨v, hv, hmv⟩ := hK.ne m hm
  obtain ⟨b, hb, hbv⟩ := hL.cov v hv
  refine ⟨b, hb, fun w hw => ?_⟩
  obtain ⟨b', hb', h1, h2⟩ := h v hv w (hK.hi m hm w hw) ⟨m, hm, hmv, hw⟩
  rw [hL.dis b hb b' hb' v hbv h1]; exact h2
theorem finer_of_block (hK : Part nv K) (hL : Part nv L) (h : ∀ m ∈ K, ∃ b ∈ L, ∀ v, m.testBit v = true → b.testBit v = true) : finerK nv K L := by
  rintro v hv w hw ⟨m, hm, h1, h2⟩
  obtain ⟨b, hb, hbb⟩ := h m hm
  exact ⟨b, hb, hbb v h1, hbb w h2⟩
theorem sum_fibers {f : Nat → Nat} : ∀ {A : List Nat} {B : List Nat}, B.Nodup → (∀ a ∈ A, f a ∈ B) → (B.map fun b => A.countP fun a => decide (f a = b)).sum = A.length := by
  intro A
  induction A with
  | nil =>
    intro B _ _
    clear ‹B.Nodup›
    induction B with
    | nil => rfl
    | cons b t ih => simpa using ih
  | cons a t ih =>
    intro B hB h
    have ih := ih hB fun x hx => h x (by simp [hx])
    have key : ∀ B : List Nat, B.Nodup → (B.map fun b => (a :: t).countP fun a => decide (f a = b)).sum = (B.map fun b => t.countP fun a => decide (f a = b)).sum + if f a ∈ B then 1 else 0 := by
      intro B
      induction B with
      | nil => intro _; rfl
      | cons b u ihB =>
        intro hn
        rw [List.nodup_cons] at hn
        have := ihB hn.2
        simp only [List.map_cons, List.sum_cons, this]
        rw [List.countP_cons]
        by_cases e : f a = b
        · have hu : f a ∉ u := fun hm => hn.1 (e ▸ hm)
          rw [if_neg hu, if_pos (decide_eq_true e), if_pos (by simp [e])]; omega
        · by_cases hu : f a ∈ u
          · rw [if_pos hu, if_neg (by simpa using e), if_pos (by simp [hu])]; omega
          · rw [if_neg hu, if_neg (by simpa using e), if_neg (by simp [e, hu])]; omega
    rw [key B hB, ih, if_pos (h a (by simp))]; rfl
theorem sum_ge {g : Nat → Nat} {p : Nat → Bool} : ∀ {B : List Nat}, (∀ b ∈ B, 1 + (if p b then 1 else 0) ≤ g b) → B.length + B.countP p ≤ (B.map g).sum := by
  intro B
  induction B with
  | nil => intro _; exact Nat.le_refl _
  | cons b t ih =>
    intro h
    have := ih fun x hx => h x (by simp [hx])
    have hb := h b (by simp)
    simp only [List.map_cons, List.sum_cons, List.length_cons, List.countP_cons]
    split at hb <;> rename_i hp
    · rw [if_pos hp]; omega
    · rw [if_neg hp]; omega
theorem two_le_countP {p : Nat → Bool} {A : List Nat} {a b : Nat} (ha : a ∈ A) (hb : b ∈ A) (hne : a ≠ b) (pa : p a = true) (pb : p b = true) : 2 ≤ A.countP p := by
  obtain ⟨l1, l2, rfl⟩ := List.append_of_mem ha
  rw [List.countP_append, List.countP_cons, pa]
  rcases List.mem_append.1 hb with h | h
  · have : 0 < l1.countP p := List.countP_pos_iff.2 ⟨b, h, pb⟩; simp; omega
  · rcases List.mem_cons.1 h with h | h
    · exact absurd h.symm hne
    · have : 0 < l2.countP p := List.countP_pos_iff.2 ⟨b, h, pb⟩; simp; omega
theorem countP_common (hK : K.Nodup) (hL : L.Nodup) : K.countP (fun m => decide (m ∈ L)) = L.countP (fun m => decide (m ∈ K)) := by
  rw [List.countP_eq_length_filter, List.countP_eq_length_filter]
  refine List.Perm.length_eq ((List.perm_ext_iff_of_nodup (hK.filter _) (hL.filter _)).2 fun x => ?_)
  simp only [List.mem_filter, decide_eq_true_eq]
  exact And.comm
theorem miss_len (K L : List Nat) : miss K L + K.countP (fun m => decide (m ∈ L)) = K.length := by
  unfold miss
  induction K with
  | nil => rfl
  | cons a t ih =>
    rw [List.countP_cons, List.countP_cons, List.length_cons, ← ih]
    by_cases h : a ∈ L <;> simp [h] <;> omega
theorem miss_diff (hK : Part nv K) (hL : Part nv L) : miss K L + L.length = miss L K + K.length := by
  have h1 := miss_len K L
  have h2 := miss_len L K
  have := countP_common hK.nd hL.nd
  omega
/-- a finer one has as many more as it lacks at least -/
theorem finer_miss (hK : Part nv K) (hL : Part nv L) (h : finerK nv K L) : L.length + miss L K ≤ K.length := by
  have hb : ∀ m, ∃ b, m ∈ K → b ∈ L ∧ ∀ v, m.testBit v = true → b.testBit v = true := fun m => by
    by_cases hm : m ∈ K
    · obtain ⟨b, h1, h2⟩ := finer_block hK hL h hm; exact ⟨b, fun _ => ⟨h1, h2⟩⟩
    · exact ⟨0, fun h => absurd h hm⟩
  let f : Nat → Nat := fun m => (hb m).choose
  have hf : ∀ m ∈ K, f m ∈ L ∧ ∀ v, m.testBit v = true → (f m).testBit v = true := fun m hm => (hb m).choose_spec hm
  rw [← sum_fibers (f := f) hL.nd fun a ha => (hf a ha).1]
  refine sum_ge fun b hbL => ?_
  obtain ⟨v, hv, hbv⟩ := hL.ne b hbL
  obtain ⟨a, ha, hav⟩ := hK.cov v hv
  have fib : ∀ a ∈ K, ∀ v, a.testBit v = true → b.testBit v = true → f a = b := fun a ha v h1 h2 => hL.dis _ (hf a ha).1 b hbL v ((hf a ha).2 v h1) h2
  by_cases hbK : b ∈ K
  · rw [if_neg (by simpa using hbK)]
    have : 0 < K.countP fun a => decide (f a = b) := List.countP_pos_iff.2 ⟨a, ha, by simpa using fib a ha v hav hbv⟩
    omega
  · rw [if_pos (by simpa using hbK)]
    have hsub : ∀ w, a.testBit w = true → b.testBit w = true := fun w hw => by have := (hf a ha).2 w hw; rwa [fib a ha v hav hbv] at this
    have : ∃ w, b.testBit w = true ∧ a.testBit w = false := by
      refine Classical.byContradiction fun hn => hbK ?_
      have : a = b := Nat.eq_of_testBit_eq fun w => by
        cases h1 : b.testBit w
        · cases h2 : a.testBit w
          · rfl
          · rw [hsub w h2] at h1; cases h1
        · cases h2 : a.testBit w
          · exact absurd ⟨w, h1, h2⟩ hn
          · rfl
      exact this ▸ ha
    obtain ⟨w, hw, haw⟩ := this
    obtain ⟨a2, ha2, ha2w⟩ := hK.cov w (hL.hi b hbL w hw)
    refine two_le_countP ha ha2 (fun e => by rw [e, ha2w] at haw; cases haw) ?_ ?_
    · simpa using fib a ha v hav hbv
    · simpa using fib a2 ha2 w ha2w hw
theorem finer_nomiss (hK : Part nv K) (hL : Part nv L) (h0 : miss L K = 0) : miss K L = 0 := by
  unfold miss at *
  rw [List.countP_eq_zero] at *
  intro a ha
  have hall : ∀ b ∈ L, b ∈ K := fun b hb => by simpa using h0 b hb
  obtain ⟨v, hv, hav⟩ := hK.ne a ha
  obtain ⟨b, hb, hbv⟩ := hL.cov v hv
  rw [hK.dis a ha b (hall b hb) v hav hbv]
  simpa using hb
theorem miss_two {K L : List Nat} (h : miss L K = 1) {b b' : Nat} (hb : b ∈ L) (hb' : b' ∈ L) (n1 : b ∉ K) (n2 : b' ∉ K) : b = b' := by
  refine Classical.byContradiction fun hne => ?_
  have := two_le_countP (p := fun m => decide (m ∉ K)) hb hb' hne (by simpa using n1) (by simpa using n2)
  unfold miss at h; omega
theorem split_finer (hK : Part nv K) (hL : Part nv L) (h : miss L K = 1 ∨ miss L K = 0) : finerK nv K L := by
  refine finer_of_block hK hL fun m hm => ?_
  by_cases hmL : m ∈ L
  · exact ⟨m, hmL, fun _ h => h⟩
  rcases h with h | h
  · obtain ⟨v, hv, hmv⟩ := hK.ne m hm
    obtain ⟨b, hb, hbv⟩ := hL.cov v hv
    have out : ∀ w b', b' ∈ L → m.testBit w = true → b'.testBit w = true → b' ∉ K := fun w b' hb' h1 h2 h3 => hmL (by rw [hK.dis m hm b' h3 w h1 h2]; exact hb')
    refine ⟨b, hb, fun w hw => ?_⟩
    obtain ⟨b', hb', hbw⟩ := hL.cov w (hK.hi m hm w hw)
    rw [miss_two h hb hb' (out v b hb hmv hbv) (out w b' hb' hw hbw)]; exact hbw
  · have := finer_nomiss hK hL h
    unfold miss at this
    rw [List.countP_eq_zero] at this
    exact absurd (by simpa using this m hm) hmL
theorem stepK_iff (hK : Part nv K) (hL : Part nv L) : stepK K L ↔ ((K.length = L.length ∨ K.length = L.length + 1) ∧ finerK nv K L) ∨ (L.length = K.length + 1 ∧ finerK nv L K) := by
  have hd := miss_diff hK hL
  constructor
  · rintro (⟨h1, h2⟩ | ⟨h1, h2⟩ | ⟨h1, h2⟩)
    · exact .inl ⟨by omega, split_finer hK hL (.inr h2)⟩
    · exact .inr ⟨by omega, split_finer hL hK (.inl h1)⟩
    · exact .inl ⟨by omega, split_finer hK hL (.inl h2)⟩
  · unfold stepK
    rintro (⟨h1, h2⟩ | ⟨h1, h2⟩)
    · have h3 := finer_miss hK hL h2
      have h4 := finer_nomiss hK hL
      by_cases e : miss L K = 0
      · have := h4 e; omega
      · omega
    · have h3 := finer_miss hL hK h2
      have h4 := finer_nomiss hL hK
      by_cases e : miss K L = 0
      · have := h4 e; omega
      · omega
end Go.Fx



/- Chapter 10: sectors and divisions, as the functions compute them. -/
set_option linter.unusedSimpArgs false
set_option linter.unusedVariables false
namespace Go.Fx
open Go Go.RowKit
theorem ipos {l n : Nat} (h : n < l) : ((n : Int) < (l : Int)) := by omega
/-! few -/
def fewB (a : XAirspace) : Bool := (a.sectors.all fun s => !decide (10 < (s.volumes.length : Int))) && ((a.configs.all fun c => !decide (10 < (c.sectors.length : Int))) && (decide ((a.volumes.length : Int) ≤ 6) && (decide ((a.sectors.length : Int) ≤ 12) && decide ((a.configs.length : Int) ≤ 7))))
theorem m12_eq (a : XAirspace) (ha : smXAirspace a) : m12_overflightref10_Few a = some (fewB a) := by
  have hs : a.sectors.length < 9223372036854775807 := by have := ha.2.1.1; omega
  have hc : a.configs.length < 9223372036854775807 := by have := ha.2.2.1.1; omega
  have h2 : ∀ fuel, a.configs.length < fuel → loop1 (m12_overflightref10_Few_B1 a) fuel 0 = some ((a.configs.all fun c => !decide (10 < (c.sectors.length : Int))) && (decide ((a.volumes.length : Int) ≤ 6) && (decide ((a.sectors.length : Int) ≤ 12) && decide ((a.configs.length : Int) ≤ 7)))) := by
    intro fuel hf
    refine up_list0 (fun t => some ((t.all fun c => !decide (10 < (c.sectors.length : Int))) && (decide ((a.volumes.length : Int) ≤ 6) && (decide ((a.sectors.length : Int) ≤ 12) && decide ((a.configs.length : Int) ≤ 7))))) a.configs hc ?_ ?_ hf
    · intro sf; unfold m12_overflightref10_Few_B1
      simp only [Int.lt_irrefl, decide_false, cond_false, List.all_nil, Bool.true_and]
      cases decide ((a.volumes.length : Int) ≤ 6) <;> cases decide ((a.sectors.length : Int) ≤ 12) <;> rfl
    · intro sf i x t h1 h2 h3 ih
      obtain ⟨_, rfl⟩ := List.getElem?_eq_some_iff.1 h2
      unfold m12_overflightref10_Few_B1
      have g1 : a.configs.getD (i : Int).toNat default = a.configs[i] := by simp [h1]
      simp only [decide_eq_true (ipos h1), cond_true, g1, h3, List.all_cons]
      rw [ck_eq (by omega), ih]
      cases decide (10 < (a.configs[i].sectors.length : Int)) <;> simp
  unfold m12_overflightref10_Few fewB
  refine up_list0 (fun t => some ((t.all fun s => !decide (10 < (s.volumes.length : Int))) && ((a.configs.all fun c => !decide (10 < (c.sectors.length : Int))) && (decide ((a.volumes.length : Int) ≤ 6) && (decide ((a.sectors.length : Int) ≤ 12) && decide ((a.configs.length : Int) ≤ 7)))))) a.sectors hs ?_ ?_ (show a.sectors.length < ((a.sectors.length : Int) - 0).toNat + 1 by omega)
  · intro sf; unfold m12_overflightref10_Few_B0
    simp only [Int.lt_irrefl, decide_false, cond_false, List.all_nil, Bool.true_and]
    exact h2 _ (by omega)
  · intro sf i x t h1 h2 h3 ih
    obtain ⟨_, rfl⟩ := List.getElem?_eq_some_iff.1 h2
    unfold m12_overflightref10_Few_B0
    have g1 : a.sectors.getD (i : Int).toNat default = a.sectors[i] := by simp [h1]
    simp only [decide_eq_true (ipos h1), cond_true, g1, h3, List.all_cons]
    rw [ck_eq (by omega), ih]
    cases decide (10 < (a.sectors[i].volumes.length : Int)) <;> simp
structure Few10 (a : XAirspace) : Prop where
  nv : a.volumes.length ≤ 6
  ns : a.sectors.length ≤ 12
  nc : a.configs.length ≤ 7
  sl : ∀ s ∈ a.sectors, s.volumes.length ≤ 10
  cl : ∀ c ∈ a.configs, c.sectors.length ≤ 10
theorem Few10.of {a : XAirspace} (h : fewB a = true) : Few10 a := by
  unfold fewB at h
  simp only [Bool.and_eq_true, List.all_eq_true, Bool.not_eq_true', decide_eq_false_iff_not, decide_eq_true_eq] at h
  obtain ⟨h1, h2, h3, h4, h5⟩ := h
  exact ⟨by omega, by omega, by omega, fun s hs => by have := h1 s hs; omega, fun c hc => by have := h2 c hc; omega⟩
/-! sectors -/
def secGo (nv : Nat) : Nat → List Int → Option Nat
  | x, [] => some x
  | x, v :: t => bif decide (v < 0) || (decide ((nv : Int) ≤ v) || x.testBit v.toNat) then none else secGo nv (x ||| 2 ^ v.toNat) t
def secV (nv : Nat) (l : List Int) : Option Nat := (secGo nv 0 l).bind fun x => if x = 0 then none else some x
def setsGo (nv : Nat) : List XSector → Option (List Nat)
  | [] => some []
  | s :: t => (secV nv s.volumes).bind fun x => (setsGo nv t).map (x :: ·)
def res {α : Type} : Option (List α) → List α × Bool
  | none => ([], false)
  | some L => (L, true)
theorem and_pow_zero {x k : Nat} : x &&& 2 ^ k = 0 ↔ x.testBit k = false := by
  constructor
  · intro h
    have : (x &&& 2 ^ k).testBit k = false := by rw [h]; exact Nat.zero_testBit k
    rw [Nat.testBit_and, Nat.testBit_two_pow_self, Bool.and_true] at this; exact this
  · intro h
    refine Nat.eq_of_testBit_eq fun i => ?_
    rw [Nat.testBit_and, Nat.zero_testBit]
    by_cases e : k = i
    · subst e; rw [h]; rfl
    · rw [Nat.testBit_two_pow_of_ne e, Bool.and_false]
theorem testBit_and_pow {x k : Nat} : decide (((x &&& 2 ^ k : Nat) : Int) ≠ 0) = x.testBit k := by
  cases h : x.testBit k
  · rw [and_pow_zero.2 h]; rfl
  · have : x &&& 2 ^ k ≠ 0 := fun e => by rw [and_pow_zero.1 e] at h; cases h
    rw [decide_eq_true_eq]; omega
theorem wrapBit {k : Nat} (h : k < 64) : IntKind.wrap .u64 (1 * 2 ^ min k (IntKind.bits .u64)) = ((2 ^ k : Nat) : Int) := by
  have hm : min k (IntKind.bits .u64) = k := Nat.min_eq_left (show k ≤ 64 by omega)
  rw [hm, Int.one_mul]
  have h1 : 2 ^ k < 2 ^ 64 := Nat.pow_lt_pow_right (by decide) h
  have e : ((2 : Int) ^ k) = ((2 ^ k : Nat) : Int) := by simp
  rw [e]
  generalize 2 ^ k = m at h1
  exact IntWalk.u64_in _ ⟨by omega, by omega⟩
theorem or_lt {x k n : Nat} (hx : x < 2 ^ n) (hk : k < n) : x ||| 2 ^ k < 2 ^ n := Nat.or_lt_two_pow hx (Nat.pow_lt_pow_right (by decide) hk)
theorem pow64 {n : Nat} (h : n ≤ 6) : 2 ^ n ≤ 64 := by
  have : 2 ^ n ≤ 2 ^ 6 := Nat.pow_le_pow_right (by decide) h
  omega
theorem m41_inner (a : XAirspace) (hf : Few10 a) (j : Nat) (hj : j < a.sectors.length) (hw : IntKind.i64.wrap ((j : Int) + 1) = (j : Int) + 1) (sf : List Int → Int → Option (List Int × Bool)) (l : List Int) (hl : l.length ≤ 12) :
    loop3 (m41_configs_sets_B1 a j sf) (((((a.sectors.getD (j : Int).toNat default).volumes).length : Int) - 0).toNat + 1) l 0 0 = match secV a.volumes.length (a.sectors.getD j default).volumes with
      | none => some (([] : List Int), false)
      | some x => sf (l ++ [(x : Int)]) ((j : Int) + 1) := by
  have hnv := hf.nv
  have hmem : a.sectors.getD j default ∈ a.sectors := by rw [show a.sectors.getD j default = a.sectors[j] by simp [hj]]; exact List.getElem_mem _
  have hsl := hf.sl _ hmem
  have e0 : a.sectors.getD (j : Int).toNat default = a.sectors.getD j default := rfl
  rw [e0]
  generalize hS : (a.sectors.getD j default).volumes = S at hsl ⊢
  refine (up_list (σ := List Int × Int) (L := fun n i s => loop3 (m41_configs_sets_B1 a j sf) n s.1 s.2 i) (fun _ s => ∃ x : Nat, s.2 = (x : Int) ∧ x < 2 ^ a.volumes.length ∧ s.1.length ≤ 12)
    (fun i t s => match (secGo a.volumes.length s.2.toNat t).bind fun x => if x = 0 then none else some x with
      | none => some (([] : List Int), false)
      | some x => sf (s.1 ++ [(x : Int)]) ((j : Int) + 1)) S (by omega) ?_ ?_ _ (l, 0) (by omega) ⟨0, rfl, Nat.two_pow_pos _, hl⟩).trans ?_
  · rintro n ⟨l, y⟩ ⟨x, rfl, hx, hl⟩
    simp only at hl ⊢
    rw [loop3_succ]
    unfold m41_configs_sets_B1
    simp only [e0, hS, Int.lt_irrefl, decide_false, cond_false, secGo, Int.toNat_natCast, Option.bind_some, hw]
    by_cases h0 : x = 0
    · subst h0; rfl
    · rw [decide_eq_false (show ¬ (x : Int) = 0 by omega), cond_false, if_neg h0, ck_eq (by simp; omega)]
  · rintro n i ⟨l, y⟩ v t h1 h2 h3 ⟨x, rfl, hx, hl⟩ ih
    obtain ⟨_, rfl⟩ := List.getElem?_eq_some_iff.1 h2
    simp only at hl ⊢
    rw [loop3_succ]
    generalize loop3 (m41_configs_sets_B1 a (j : Int) sf) n = sf2 at ih ⊢
    unfold m41_configs_sets_B1
    have g1 : S.getD i default = S[i] := by simp [h1]
    have hx64 := pow64 hnv
    simp only [e0, hS, decide_eq_true (ipos h1), cond_true, g1, h3, jn_eq, secGo, Int.toNat_natCast]
    rw [ck_eq (by omega)]
    by_cases k1 : S[i] < 0
    · rw [decide_eq_true k1]; rfl
    by_cases k2 : (a.volumes.length : Int) ≤ S[i]
    · rw [decide_eq_false k1, decide_eq_true k2]; rfl
    have hk : S[i].toNat < 64 := by omega
    rw [decide_eq_false k1, cond_false, decide_eq_false k2, cond_false, ck_eq (by omega), wrapBit hk]
    have hp : 2 ^ S[i].toNat < 2 ^ 64 := Nat.pow_lt_pow_right (by decide) hk
    rw [bits_and_u64_nat x _ (by omega) (by omega), bits_or_u64_nat x _ (by omega) (by omega), testBit_and_pow]
    simp only [Bool.false_or]
    cases x.testBit S[i].toNat
    · rw [cond_false, cond_false, ck_eq (by omega), ih (l, _) ⟨_, rfl, or_lt hx (by omega), hl⟩]
      rfl
    · rfl
  · unfold secV; rfl
theorem m41_eq (a : XAirspace) (hf : Few10 a) : m41_configs_sets a = some (res ((setsGo a.volumes.length a.sectors).map fun L => L.map fun (x : Nat) => (x : Int))) := by
  have hns := hf.ns
  unfold m41_configs_sets
  refine (up_listB (B := m41_configs_sets_B0 a) (σ := List Int) (fun i s => s.length = i) (fun i t s => some (res ((setsGo a.volumes.length t).map fun L => s ++ L.map fun (x : Nat) => (x : Int)))) a.sectors (by omega) ?_ ?_ (by omega) rfl).trans ?_
  · intro sf s h; unfold m41_configs_sets_B0
    simp [setsGo, res]
  · intro sf i s x t h1 h2 h3 hs ih
    have hx := getD_of (d := default) h2
    unfold m41_configs_sets_B0
    simp only [decide_eq_true (ipos h1), cond_true]
    rw [ck_eq (by omega), m41_inner a hf i h1 h3 sf s (by omega), hx]
    simp only [setsGo]
    cases secV a.volumes.length x.volumes with
    | none => rfl
    | some y =>
      simp only [Option.bind_some]
      rw [ih _ (by simp; omega)]
      cases setsGo a.volumes.length t <;> simp [res]
  · cases setsGo a.volumes.length a.sectors <;> simp [res]
/-! divisions -/
def cfgGo (secs : List Nat) : Nat → List (Int × Bool) → List Int → Option (Nat × List (Int × Bool))
  | x, d, [] => some (x, d)
  | x, d, s :: t => bif decide (s < 0) || (decide ((secs.length : Int) ≤ s) || decide (x &&& secs.getD s.toNat 0 ≠ 0)) then none else cfgGo secs (x ||| secs.getD s.toNat 0) (mput d (secs.getD s.toNat 0 : Nat) true) t
def cfgV (nv : Nat) (secs : List Nat) (c : List Int) : Option (List (Int × Bool)) := (cfgGo secs 0 [] c).bind fun p => if p.1 = 2 ^ nv - 1 then some p.2 else none
def divGo (nv : Nat) (secs : List Nat) : List XConfig → Option (List (List (Int × Bool)))
  | [] => some []
  | c :: t => (cfgV nv secs c.sectors).bind fun d => (divGo nv secs t).map (d :: ·)
def shapeB (a : XAirspace) : Bool := decide (1 ≤ a.volumes.length) && decide (1 ≤ a.configs.length)
def divV (a : XAirspace) : Option (List (List (Int × Bool))) := bif shapeB a then (setsGo a.volumes.length a.sectors).bind fun secs => divGo a.volumes.length secs a.configs else none
theorem all_eq {n : Nat} (h1 : 1 ≤ n) (h : n ≤ 6) : (18446744073709551615 / 2 ^ min (IntKind.wrap .i64 (64 - (n : Int))).toNat (IntKind.bits .u64) : Int) = ((2 ^ n - 1 : Nat) : Int) := by
  have : n = 1 ∨ n = 2 ∨ n = 3 ∨ n = 4 ∨ n = 5 ∨ n = 6 := by omega
  rcases this with rfl | rfl | rfl | rfl | rfl | rfl <;> decide +kernel
theorem getD_mapI (secs : List Nat) (i : Nat) : (secs.map fun (x : Nat) => (x : Int)).getD i default = ((secs.getD i 0 : Nat) : Int) := by
  simp only [List.getD_eq_getElem?_getD, List.getElem?_map]
  cases secs[i]? <;> rfl
theorem getD_lt {secs : List Nat} {b i : Nat} (h : ∀ x ∈ secs, x < b) (hi : i < secs.length) : secs.getD i 0 < b := by
  rw [show secs.getD i 0 = secs[i] by simp [hi]]; exact h _ (List.getElem_mem _)
theorem m31_inner (a : XAirspace) (hf : Few10 a) (hv1 : 1 ≤ a.volumes.length) (secs : List Nat) (hb : ∀ x ∈ secs, x < 64) (j : Nat) (hj : j < a.configs.length) (hw : IntKind.i64.wrap ((j : Int) + 1) = (j : Int) + 1) (sf : List (List (Int × Bool)) → Int → Option (List (List (Int × Bool)) × Bool)) (l : List (List (Int × Bool))) (hl : l.length ≤ 12) :
    loop4 (m31_configs_divisions_B1 a (secs.map (fun (x : Nat) => (x : Int)), true) j sf) (((((a.configs.getD (j : Int).toNat default).sectors).length : Int) - 0).toNat + 1) l 0 0 ([] : List (Int × Bool)) = match cfgV a.volumes.length secs (a.configs.getD j default).sectors with
      | none => some (([] : List (List (Int × Bool))), false)
      | some d => sf (l ++ [d]) ((j : Int) + 1) := by
  have hnv := hf.nv
  have hmem : a.configs.getD j default ∈ a.configs := by rw [show a.configs.getD j default = a.configs[j] by simp [hj]]; exact List.getElem_mem _
  have hcl := hf.cl _ hmem
  have e0 : a.configs.getD (j : Int).toNat default = a.configs.getD j default := rfl
  rw [e0]
  generalize hS : (a.configs.getD j default).sectors = S at hcl ⊢
  refine (up_list (σ := List (List (Int × Bool)) × Int × List (Int × Bool)) (L := fun n i s => loop4 (m31_configs_divisions_B1 a (secs.map (fun (x : Nat) => (x : Int)), true) j sf) n s.1 s.2.1 i s.2.2) (fun _ s => ∃ x : Nat, s.2.1 = (x : Int) ∧ x < 64 ∧ s.1.length ≤ 12)
    (fun i t s => match (cfgGo secs s.2.1.toNat s.2.2 t).bind fun p => if p.1 = 2 ^ a.volumes.length - 1 then some p.2 else none with
      | none => some (([] : List (List (Int × Bool))), false)
      | some d => sf (s.1 ++ [d]) ((j : Int) + 1)) S (by omega) ?_ ?_ _ (l, 0, []) (by omega) ⟨0, rfl, by decide, hl⟩).trans ?_
  · rintro n ⟨l, y, d⟩ ⟨x, rfl, hx, hl⟩
    simp only at hl ⊢
    rw [loop4_succ]
    unfold m31_configs_divisions_B1
    simp only [e0, hS, Int.lt_irrefl, decide_false, cond_false, cfgGo, Int.toNat_natCast, Option.bind_some, hw, all_eq hv1 hnv]
    by_cases h0 : x = 2 ^ a.volumes.length - 1
    · rw [decide_eq_false (show ¬ ((x : Int) ≠ ((2 ^ a.volumes.length - 1 : Nat) : Int)) by omega), cond_false, if_pos h0, ck_eq (by simp; omega)]
    · rw [decide_eq_true (show ((x : Int) ≠ ((2 ^ a.volumes.length - 1 : Nat) : Int)) by omega), cond_true, if_neg h0]
  · rintro n i ⟨l, y, d⟩ v t h1 h2 h3 ⟨x, rfl, hx, hl⟩ ih
    obtain ⟨_, rfl⟩ := List.getElem?_eq_some_iff.1 h2
    simp only at hl ⊢
    rw [loop4_succ]
    generalize loop4 (m31_configs_divisions_B1 a (secs.map (fun (x : Nat) => (x : Int)), true) (j : Int) sf) n = sf2 at ih ⊢
    unfold m31_configs_divisions_B1
    have g1 : S.getD i default = S[i] := by simp [h1]
    simp only [e0, hS, decide_eq_true (ipos h1), cond_true, g1, h3, jn_eq, cfgGo, Int.toNat_natCast, List.length_map, getD_mapI]
    rw [ck_eq (by omega)]
    by_cases k1 : S[i] < 0
    · rw [decide_eq_true k1]; rfl
    by_cases k2 : (secs.length : Int) ≤ S[i]
    · rw [decide_eq_false k1, decide_eq_true k2]; rfl
    rw [decide_eq_false k1, cond_false, decide_eq_false k2, cond_false, ck_eq (by omega)]
    have hm : secs.getD S[i].toNat 0 < 64 := getD_lt hb (by omega)
    rw [bits_and_u64_nat x _ (by omega) (by omega), bits_or_u64_nat x _ (by omega) (by omega)]
    simp only [Bool.false_or]
    have hor : x ||| secs.getD S[i].toNat 0 < 64 := Nat.or_lt_two_pow (n := 6) hx hm
    have ed : decide (((x &&& secs.getD S[i].toNat 0 : Nat) : Int) ≠ 0) = decide (x &&& secs.getD S[i].toNat 0 ≠ 0) := by
      by_cases h0 : x &&& secs.getD S[i].toNat 0 = 0
      · simp [h0]
      · rw [decide_eq_true h0]; simp only [ne_eq, decide_eq_true_eq]; omega
    rw [ed]
    cases decide (x &&& secs.getD S[i].toNat 0 ≠ 0)
    · rw [cond_false, cond_false, ck_eq (by omega), ck_eq (by omega), ih (l, _, _) ⟨_, rfl, hor, hl⟩]
      rfl
    · rfl
  · unfold cfgV; rfl
theorem secGo_lt {nv : Nat} : ∀ {t : List Int} {x y : Nat}, x < 2 ^ nv → secGo nv x t = some y → y < 2 ^ nv := by
  intro t
  induction t with
  | nil => intro x y hx h; cases h; exact hx
  | cons v t ih =>
    intro x y hx h
    unfold secGo at h
    cases hc : (decide (v < 0) || (decide ((nv : Int) ≤ v) || x.testBit v.toNat))
    · rw [hc, cond_false] at h
      simp only [Bool.or_eq_false_iff, decide_eq_false_iff_not] at hc
      exact ih (or_lt hx (by omega)) h
    · rw [hc] at h; cases h
theorem setsGo_lt {nv : Nat} : ∀ {l : List XSector} {L : List Nat}, setsGo nv l = some L → (∀ x ∈ L, x < 2 ^ nv) ∧ L.length = l.length := by
  intro l
  induction l with
  | nil => intro L h; cases h; simp
  | cons s t ih =>
    intro L h
    unfold setsGo at h
    cases h1 : secV nv s.volumes with
    | none => rw [h1] at h; cases h
    | some x =>
      rw [h1, Option.bind_some] at h
      cases h2 : setsGo nv t with
      | none => rw [h2] at h; cases h
      | some M =>
        rw [h2, Option.map_some] at h
        cases h
        obtain ⟨i1, i2⟩ := ih h2
        unfold secV at h1
        cases h3 : secGo nv 0 s.volumes with
        | none => rw [h3] at h1; cases h1
        | some y =>
          rw [h3, Option.bind_some] at h1
          have : y = x := by split at h1 <;> simp_all
          subst this
          refine ⟨fun z hz => ?_, by simp [i2]⟩
          rcases List.mem_cons.1 hz with rfl | hz
          · exact secGo_lt (Nat.two_pow_pos _) h3
          · exact i1 z hz
theorem m31_eq (a : XAirspace) (hf : Few10 a) : m31_configs_divisions a = some (res (divV a)) := by
  have hnv := hf.nv; have hns := hf.ns; have hnc := hf.nc
  unfold m31_configs_divisions divV
  simp only [jn_eq, m41_eq a hf, Option.bind_some]
  by_cases c1 : (a.volumes.length : Int) < 1
  · have : shapeB a = false := by unfold shapeB; rw [decide_eq_false (by omega)]; rfl
    rw [decide_eq_true c1, this]; rfl
  by_cases c2 : (a.configs.length : Int) < 1
  · have : shapeB a = false := by unfold shapeB; rw [decide_eq_false (show ¬ 1 ≤ a.configs.length by omega), Bool.and_false]
    rw [decide_eq_false c1, decide_eq_false (show ¬ 64 < (a.volumes.length : Int) by omega), decide_eq_false (show ¬ 64 < (a.sectors.length : Int) by omega), decide_eq_true c2, this]; rfl
  have : shapeB a = true := by unfold shapeB; rw [decide_eq_true (show 1 ≤ a.configs.length by omega), decide_eq_true (by omega)]; rfl
  rw [decide_eq_false c1, decide_eq_false (show ¬ 64 < (a.volumes.length : Int) by omega), decide_eq_false (show ¬ 64 < (a.sectors.length : Int) by omega), decide_eq_false c2, decide_eq_false (show ¬ 32 < (a.configs.length : Int) by omega), this]
  simp only [cond_false, cond_true]
  cases hs : setsGo a.volumes.length a.sectors with
  | none => rfl
  | some secs =>
    obtain ⟨hlt, hlen⟩ := setsGo_lt hs
    have h64 := pow64 hnv
    simp only [Option.map_some, res, Bool.not_true, cond_false, Option.bind_some]
    rw [ck_eq (by rw [wrap_i64 (by omega) (by omega)]; omega)]
    refine (up_listB (B := m31_configs_divisions_B0 a (secs.map (fun (x : Nat) => (x : Int)), true)) (σ := List (List (Int × Bool))) (fun i s => s.length = i) (fun i t s => some (res ((divGo a.volumes.length secs t).map fun L => s ++ L))) a.configs (by omega) ?_ ?_ (by omega) rfl).trans ?_
    · intro sf s h; unfold m31_configs_divisions_B0
      simp [divGo, res]
    · intro sf i s x t h1 h2 h3 hs ih
      have hx := getD_of (d := default) h2
      unfold m31_configs_divisions_B0
      simp only [decide_eq_true (ipos h1), cond_true]
      rw [ck_eq (by omega), m31_inner a hf (by omega) secs (fun x hx => by have := hlt x hx; omega) i h1 h3 sf s (by omega), hx]
      simp only [divGo]
      cases cfgV a.volumes.length secs x.sectors with
      | none => rfl
      | some y =>
        simp only [Option.bind_some]
        rw [ih _ (by simp; omega)]
        cases divGo a.volumes.length secs t <;> simp [res]
    · cases divGo a.volumes.length secs a.configs <;> simp [res]
end Go.Fx



/- Chapter 10: what valid airspaces are, with the program's words and with the document's. -/
set_option linter.unusedSimpArgs false
set_option linter.unusedVariables false
namespace Go.Fx
open Go Go.RowKit
/-! the document's Check -/
theorem m30_eq (l : List Int) (n : Int) (hl : l.length < 9223372036854775807) : m30_overflightref10_has l n = some (decide (n ∈ l)) := by
  unfold m30_overflightref10_has
  refine up_list0 (fun t => some (decide (n ∈ t))) l hl ?_ ?_ (show l.length < ((l.length : Int) - 0).toNat + 1 by omega)
  · intro sf; unfold m30_overflightref10_has_B0; simp
  · intro sf i x t h1 h2 h3 ih
    obtain ⟨_, rfl⟩ := List.getElem?_eq_some_iff.1 h2
    unfold m30_overflightref10_has_B0
    have g1 : l.getD (i : Int).toNat default = l[i] := by simp [h1]
    simp only [decide_eq_true (ipos h1), cond_true, g1, h3, ih]
    rw [ck_eq (by omega)]
    by_cases e : l[i] = n
    · simp [e]
    · have : (n ∈ l[i] :: t) ↔ n ∈ t := ⟨fun h => (List.mem_cons.1 h).resolve_left (Ne.symm e), List.mem_cons_of_mem _⟩
      rw [decide_eq_false e, cond_false]; simp only [this]
def idxOk (below : Int) (l : List Int) : Prop := (∀ v ∈ l, 0 ≤ v ∧ v < below) ∧ l.Nodup
instance (below : Int) (l : List Int) : Decidable (idxOk below l) := by unfold idxOk; infer_instance
theorem m32_eq (l : List Int) (below : Int) (hl : l.length < 9223372036854775807) : m32_overflightref10_indices l below = some (decide (idxOk below l)) := by
  unfold m32_overflightref10_indices
  refine (up_listI (fun i t => some (decide (idxOk below t ∧ ∀ v ∈ t, v ∉ l.take i))) l hl ?_ ?_ (show l.length < ((l.length : Int) - 0).toNat + 1 by omega)).trans (by simp)
  · intro sf; unfold m32_overflightref10_indices_B0; simp [idxOk]
  · intro sf i x t h1 h2 h3 ih
    obtain ⟨_, rfl⟩ := List.getElem?_eq_some_iff.1 h2
    unfold m32_overflightref10_indices_B0
    have g1 : l.getD (i : Int).toNat default = l[i] := by simp [h1]
    simp only [decide_eq_true (ipos h1), cond_true, g1, h3, ih, jn_eq]
    rw [ck_eq (by omega), ck_eq (by omega), ck_eq (by omega), ck_eq (by omega)]
    have e1 : (l.drop 0).take ((i : Int).toNat - 0) = l.take i := by simp
    rw [e1, m30_eq _ _ (by simp; omega), Option.bind_some]
    have et : l.take (i + 1) = l.take i ++ [l[i]] := List.take_succ_eq_append_getElem h1
    by_cases k1 : l[i] < 0
    · have : ¬ (idxOk below (l[i] :: t) ∧ ∀ v ∈ l[i] :: t, v ∉ l.take i) := fun h => by have := h.1.1 l[i] (by simp); omega
      rw [decide_eq_true k1, decide_eq_false this]; rfl
    by_cases k2 : below ≤ l[i]
    · have : ¬ (idxOk below (l[i] :: t) ∧ ∀ v ∈ l[i] :: t, v ∉ l.take i) := fun h => by have := h.1.1 l[i] (by simp); omega
      rw [decide_eq_false k1, cond_false, decide_eq_true k2, decide_eq_false this]; rfl
    rw [decide_eq_false k1, decide_eq_false k2]
    by_cases k3 : l[i] ∈ l.take i
    · have : ¬ (idxOk below (l[i] :: t) ∧ ∀ v ∈ l[i] :: t, v ∉ l.take i) := fun h => h.2 l[i] (by simp) k3
      rw [decide_eq_true k3, decide_eq_false this]; rfl
    · rw [decide_eq_false k3]
      simp only [cond_false]
      congr 1
      rw [Bool.eq_iff_iff, decide_eq_true_iff, decide_eq_true_iff]
      simp only [idxOk, List.nodup_cons, List.mem_cons, et, List.mem_append, List.mem_cons, List.not_mem_nil, or_false, not_or]
      constructor
      · rintro ⟨⟨h1, h2⟩, h3⟩
        refine ⟨⟨?_, fun hm => (h3 _ hm).2 rfl, h2⟩, ?_⟩
        · rintro v (rfl | hv)
          · omega
          · exact h1 v hv
        · rintro v (rfl | hv)
          · exact k3
          · exact (h3 v hv).1
      · rintro ⟨⟨h1, h2, h3⟩, h4⟩
        exact ⟨⟨fun v hv => h1 v (.inr hv), h3⟩, fun v hv => ⟨h4 v (.inr hv), fun e => h2 (by rw [← e]; exact hv)⟩⟩
def hasV (a : XAirspace) (v : Nat) (s : Int) : Bool := decide ((v : Int) ∈ (a.sectors.getD s.toNat default).volumes)
def divOk (a : XAirspace) (c : List Int) : Prop := idxOk a.sectors.length c ∧ ∀ v < a.volumes.length, c.countP (hasV a v) = 1
instance (a : XAirspace) (c : List Int) : Decidable (divOk a c) := by unfold divOk; infer_instance
theorem sec_len {a : XAirspace} (hf : Few10 a) (i : Nat) : (a.sectors.getD i default).volumes.length ≤ 10 := by
  by_cases h : i < a.sectors.length
  · rw [show a.sectors.getD i default = a.sectors[i] by simp [h]]; exact hf.sl _ (List.getElem_mem _)
  · rw [show a.sectors.getD i default = default by simp [List.getD, List.getElem?_eq_none (show a.sectors.length ≤ i by omega)]]; decide
theorem m33_eq (a : XAirspace) (hf : Few10 a) (c : XConfig) (hc : c.sectors.length ≤ 10) : m33_overflightref10_divides a c = some (decide (divOk a c.sectors)) := by
  have hnv := hf.nv
  unfold m33_overflightref10_divides
  rw [m32_eq _ _ (by omega), Option.bind_some]
  by_cases hi : idxOk a.sectors.length c.sectors
  · rw [decide_eq_true hi]
    simp only [Bool.not_true, cond_false]
    have inner : ∀ (sf : Int → Option Bool) (v : Nat) (hw : IntKind.i64.wrap ((v : Int) + 1) = (v : Int) + 1), loop2 (m33_overflightref10_divides_B1 a c v sf) (((c.sectors.length : Int) - 0).toNat + 1) 0 0 = bif decide (c.sectors.countP (hasV a v) = 1) then sf ((v : Int) + 1) else some false := by
      intro sf v hw
      refine (up_listB (B := m33_overflightref10_divides_B1 a c v sf) (σ := Int) (fun i s => ∃ k : Nat, s = (k : Int) ∧ k ≤ i) (fun i t s => bif decide (s + (t.countP (hasV a v) : Nat) = 1) then sf ((v : Int) + 1) else some false) c.sectors (by omega) ?_ ?_ (by omega) ⟨0, rfl, Nat.le_refl _⟩).trans ?_
      · rintro sf2 s ⟨k, rfl, hk⟩
        unfold m33_overflightref10_divides_B1
        simp only [Int.lt_irrefl, decide_false, cond_false, List.countP_nil, hw]
        by_cases e : (k : Int) = 1
        · simp [e]
        · have : ¬ ((k : Int) + ((0 : Nat) : Int) = 1) := by omega
          simp [e, this]
      · rintro sf2 i s x t h1 h2 h3 ⟨k, rfl, hk⟩ ih
        obtain ⟨_, rfl⟩ := List.getElem?_eq_some_iff.1 h2
        unfold m33_overflightref10_divides_B1
        have g1 : c.sectors.getD (i : Int).toNat default = c.sectors[i] := by simp [h1]
        have hr := hi.1 c.sectors[i] (List.getElem_mem _)
        simp only [decide_eq_true (ipos h1), cond_true, g1, h3]
        rw [ck_eq (by omega), ck_eq (by omega), m30_eq _ _ (by have := sec_len hf c.sectors[i].toNat; omega), Option.bind_some, List.countP_cons]
        rw [show decide ((v : Int) ∈ (a.sectors.getD c.sectors[i].toNat default).volumes) = hasV a v c.sectors[i] from rfl]
        cases hasV a v c.sectors[i]
        · rw [cond_false, ih _ ⟨k, rfl, by omega⟩]; simp
        · rw [cond_true, wrapS (by omega), ih _ ⟨k + 1, by omega, by omega⟩]
          have e : ((k : Int) + 1 + ((t.countP (hasV a v) : Nat) : Int) = 1) = ((k : Int) + ((t.countP (hasV a v) + (if true = true then 1 else 0) : Nat) : Int) = 1) := by apply propext; simp; omega
          simp only [e]
      · have e : decide ((0 : Int) + ((c.sectors.countP (hasV a v) : Nat) : Int) = 1) = decide (c.sectors.countP (hasV a v) = 1) := by
          rw [Bool.eq_iff_iff, decide_eq_true_iff, decide_eq_true_iff]; omega
        show (bif decide ((0 : Int) + ((c.sectors.countP (hasV a v) : Nat) : Int) = 1) then _ else _) = _
        rw [e]
    refine (up_listI (fun i t => some (decide (∀ k < t.length, c.sectors.countP (hasV a (i + k)) = 1))) a.volumes (by omega) ?_ ?_ (show a.volumes.length < ((a.volumes.length : Int) - 0).toNat + 1 by omega)).trans ?_
    · intro sf; unfold m33_overflightref10_divides_B0
      simp only [Int.lt_irrefl, decide_false, cond_false]
      rw [decide_eq_true]
      intro k hk; simp at hk
    · intro sf i x t h1 h2 h3 ih
      unfold m33_overflightref10_divides_B0
      simp only [decide_eq_true (ipos h1), cond_true]
      rw [inner sf i h3, ih]
      by_cases e : c.sectors.countP (hasV a i) = 1
      · rw [decide_eq_true e, cond_true]
        congr 1
        rw [Bool.eq_iff_iff, decide_eq_true_iff, decide_eq_true_iff, List.length_cons]
        constructor
        · intro h k hk
          cases k with
          | zero => exact e
          | succ k => have := h k (by omega); rw [show i + (k + 1) = i + 1 + k by omega]; exact this
        · intro h k hk; rw [show i + 1 + k = i + (k + 1) by omega]; exact h (k + 1) (by omega)
      · rw [decide_eq_false e, cond_false, decide_eq_false]
        intro h; exact e (h 0 (by simp))
    · congr 1
      rw [Bool.eq_iff_iff, decide_eq_true_iff, decide_eq_true_iff]
      constructor
      · intro h; exact ⟨hi, fun v hv => by have := h v hv; rwa [Nat.zero_add] at this⟩
      · intro h v hv; rw [Nat.zero_add]; exact h.2 v hv
  · have : ¬ divOk a c.sectors := fun h => hi h.1
    rw [decide_eq_false hi, decide_eq_false this]; rfl
structure OKa (a : XAirspace) : Prop where
  nv1 : 1 ≤ a.volumes.length
  nc1 : 1 ≤ a.configs.length
  sec : ∀ s ∈ a.sectors, s.volumes ≠ [] ∧ idxOk a.volumes.length s.volumes
  cfg : ∀ c ∈ a.configs, divOk a c.sectors
noncomputable def okB (a : XAirspace) : Bool := @decide (OKa a) (Classical.propDecidable _)
theorem okB_true {a : XAirspace} : okB a = true ↔ OKa a := by unfold okB; exact @decide_eq_true_iff _ (Classical.propDecidable _)
theorem okB_false {a : XAirspace} (h : ¬ OKa a) : okB a = false := by
  cases e : okB a
  · rfl
  · exact absurd (okB_true.1 e) h
theorem m16_eq (a : XAirspace) (hf : Few10 a) : m16_overflightref10_Check a = some (bif okB a then (0 : Int) else 100) := by
  have hnv := hf.nv; have hns := hf.ns; have hnc := hf.nc
  unfold m16_overflightref10_Check
  simp only [jn_eq]
  by_cases c1 : (a.volumes.length : Int) < 1
  · rw [decide_eq_true c1, okB_false fun h => by have := h.nv1; omega]; rfl
  by_cases c2 : (a.configs.length : Int) < 1
  · rw [decide_eq_false c1, decide_eq_false (show ¬ 64 < (a.volumes.length : Int) by omega), decide_eq_false (show ¬ 64 < (a.sectors.length : Int) by omega), decide_eq_true c2, okB_false fun h => by have := h.nc1; omega]; rfl
  rw [decide_eq_false c1, decide_eq_false (show ¬ 64 < (a.volumes.length : Int) by omega), decide_eq_false (show ¬ 64 < (a.sectors.length : Int) by omega), decide_eq_false c2, decide_eq_false (show ¬ 32 < (a.configs.length : Int) by omega)]
  simp only [cond_false]
  have h2 : ∀ fuel, a.configs.length < fuel → loop1 (m16_overflightref10_Check_B1 a) fuel 0 = some (bif a.configs.all (fun c => decide (divOk a c.sectors)) then (0 : Int) else 100) := by
    intro fuel hfl
    refine up_list0 (fun t => some (bif t.all (fun c => decide (divOk a c.sectors)) then (0 : Int) else 100)) a.configs (by omega) ?_ ?_ hfl
    · intro sf; unfold m16_overflightref10_Check_B1; simp
    · intro sf i x t h1 h2 h3 ih
      obtain ⟨_, rfl⟩ := List.getElem?_eq_some_iff.1 h2
      unfold m16_overflightref10_Check_B1
      have g1 : a.configs.getD (i : Int).toNat default = a.configs[i] := by simp [h1]
      simp only [decide_eq_true (ipos h1), cond_true, g1, h3, List.all_cons]
      rw [ck_eq (by omega), m33_eq a hf _ (hf.cl _ (List.getElem_mem _)), Option.bind_some, ih]
      cases decide (divOk a a.configs[i].sectors) <;> rfl
  have h1 : loop1 (m16_overflightref10_Check_B0 a) (((a.sectors.length : Int) - 0).toNat + 1) 0 = some (bif a.sectors.all (fun s => decide (s.volumes ≠ []) && decide (idxOk a.volumes.length s.volumes)) && a.configs.all (fun c => decide (divOk a c.sectors)) then (0 : Int) else 100) := by
    refine up_list0 (fun t => some (bif t.all (fun s => decide (s.volumes ≠ []) && decide (idxOk a.volumes.length s.volumes)) && a.configs.all (fun c => decide (divOk a c.sectors)) then (0 : Int) else 100)) a.sectors (by omega) ?_ ?_ (show a.sectors.length < ((a.sectors.length : Int) - 0).toNat + 1 by omega)
    · intro sf; unfold m16_overflightref10_Check_B0
      simp only [Int.lt_irrefl, decide_false, cond_false, List.all_nil, Bool.true_and]
      exact h2 _ (by omega)
    · intro sf i x t h1 h2 h3 ih
      obtain ⟨_, rfl⟩ := List.getElem?_eq_some_iff.1 h2
      unfold m16_overflightref10_Check_B0
      have g1 : a.sectors.getD (i : Int).toNat default = a.sectors[i] := by simp [h1]
      have hsl := hf.sl _ (List.getElem_mem h1)
      simp only [decide_eq_true (ipos h1), cond_true, g1, h3, List.all_cons, jn_eq]
      rw [ck_eq (by omega), ck_eq (by omega), m32_eq _ _ (by omega), Option.bind_some, ih]
      by_cases e : a.sectors[i].volumes = []
      · simp [e]
      · have e2 : ¬ ((a.sectors[i].volumes.length : Int) = 0) := fun h => e (List.length_eq_zero_iff.1 (by omega))
        rw [decide_eq_false e2, decide_eq_true e]
        cases decide (idxOk a.volumes.length a.sectors[i].volumes) <;> rfl
  rw [h1]
  congr 2
  rw [Bool.eq_iff_iff, okB_true]
  simp only [Bool.and_eq_true, List.all_eq_true, decide_eq_true_eq]
  exact ⟨fun h => ⟨by omega, by omega, h.1, h.2⟩, fun h => ⟨h.sec, h.cfg⟩⟩
/-! the sector of a volume -/
def secOf (a : XAirspace) (volume : Int) (c : List Int) : Int × Bool := match c.find? (fun s => decide (0 ≤ s) && (decide (s < (a.sectors.length : Int)) && decide (volume ∈ (a.sectors.getD s.toNat default).volumes))) with
  | some s => (s, true)
  | none => (0, false)
def sectorM (a : XAirspace) (konfig volume : Int) : Int × Bool := bif decide (konfig < 0) || decide ((a.configs.length : Int) ≤ konfig) then (0, false) else secOf a volume (a.configs.getD konfig.toNat default).sectors
theorem m39_eq (s : List Int) (v : Int) (hl : s.length < 9223372036854775807) : ∃ n : Int, m39_slices_Indexint_int_ s v = some n ∧ (0 ≤ n ↔ v ∈ s) ∧ (n < 0 → n = -1) ∧ (0 ≤ n → s.getD n.toNat default = v ∧ n.toNat < s.length ∧ ∀ k < n.toNat, s.getD k default ≠ v) := by
  let F : Nat → List Int → Int := fun i t => if v ∈ t then ((i + t.idxOf v : Nat) : Int) else -1
  have hF : m39_slices_Indexint_int_ s v = some (F 0 s) := by
    unfold m39_slices_Indexint_int_
    refine up_listI (fun i t => some (F i t)) s hl ?_ ?_ (show s.length < ((s.length : Int) - 0).toNat + 1 by omega)
    · intro sf; unfold m39_slices_Indexint_int__B0; simp [F]
    · intro sf i x t h1 h2 h3 ih
      obtain ⟨_, rfl⟩ := List.getElem?_eq_some_iff.1 h2
      unfold m39_slices_Indexint_int__B0
      have g1 : s.getD (i : Int).toNat default = s[i] := by simp [h1]
      simp only [decide_eq_true (ipos h1), cond_true, g1, h3, ih]
      rw [ck_eq (by omega)]
      by_cases h : v = s[i]
      · rw [decide_eq_true h, cond_true]; simp [F, ← h]
      · rw [decide_eq_false h, cond_false]
        simp only [F, List.mem_cons, h, false_or]
        by_cases hm : v ∈ t
        · simp only [hm, if_true]; rw [List.idxOf_cons, show (s[i] == v) = false by simpa using Ne.symm h]; simp; omega
        · simp only [hm, if_false]
  refine ⟨F 0 s, hF, ?_, ?_, ?_⟩
  · simp only [F]; by_cases hm : v ∈ s
    · simp only [hm, if_true, iff_true]; omega
    · simp only [hm, if_false]; exact ⟨fun h => by omega, fun h => h.elim⟩
  · simp only [F]; split
    · intro h; omega
    · intro _; rfl
  · simp only [F]; by_cases hm : v ∈ s
    · simp only [hm, if_true, Nat.zero_add, Int.toNat_natCast]
      intro _
      have hlt := List.idxOf_lt_length_of_mem hm
      refine ⟨by rw [show s.getD (s.idxOf v) default = s[s.idxOf v] by simp [hlt]]; exact List.getElem_idxOf hlt, hlt, fun k hk e => ?_⟩
      have hk' : k < s.length := by omega
      rw [show s.getD k default = s[k] by simp [hk']] at e
      have := List.not_of_lt_findIdx (xs := s) (p := fun x => x == v) (i := k) hk
      simp [e] at this
    · simp only [hm, if_false]; omega
theorem m14_eq (a : XAirspace) (hf : Few10 a) (konfig volume : Int) : m14_overflightref10_Sector a konfig volume = some (sectorM a konfig volume) := by
  have hnc := hf.nc
  unfold m14_overflightref10_Sector sectorM
  simp only [jn_eq]
  by_cases c1 : konfig < 0
  · rw [decide_eq_true c1]; rfl
  by_cases c2 : (a.configs.length : Int) ≤ konfig
  · rw [decide_eq_false c1, decide_eq_true c2]; rfl
  rw [decide_eq_false c1, decide_eq_false c2]
  simp only [cond_false, Bool.false_or]
  rw [ck_eq (by omega)]
  have hmem : a.configs.getD konfig.toNat default ∈ a.configs := by rw [show a.configs.getD konfig.toNat default = a.configs[konfig.toNat]'(by omega) by simp [show konfig.toNat < a.configs.length by omega]]; exact List.getElem_mem _
  have hcl := hf.cl _ hmem
  refine up_list0 (fun t => some (secOf a volume t)) (a.configs.getD konfig.toNat default).sectors (by omega) ?_ ?_ (show _ < (((a.configs.getD konfig.toNat default).sectors.length : Int) - 0).toNat + 1 by omega)
  · intro sf; unfold m14_overflightref10_Sector_B0; simp [secOf]
  · intro sf i x t h1 h2 h3 ih
    obtain ⟨_, rfl⟩ := List.getElem?_eq_some_iff.1 h2
    unfold m14_overflightref10_Sector_B0
    generalize hS : (a.configs.getD konfig.toNat default).sectors = S at *
    have g1 : S.getD (i : Int).toNat default = S[i] := by simp [h1]
    simp only [decide_eq_true (ipos h1), cond_true, g1, h3, jn_eq, ih]
    have hck : (0 : Int) ≤ (i : Int) ∧ (i : Int) < (S.length : Int) := by omega
    simp only [ck_eq hck]
    have es : secOf a volume (S[i] :: t) = bif decide (0 ≤ S[i]) && (decide (S[i] < (a.sectors.length : Int)) && decide (volume ∈ (a.sectors.getD S[i].toNat default).volumes)) then (S[i], true) else secOf a volume t := by
      unfold secOf; rw [List.find?_cons]
      cases (decide (0 ≤ S[i]) && (decide (S[i] < (a.sectors.length : Int)) && decide (volume ∈ (a.sectors.getD S[i].toNat default).volumes))) <;> rfl
    rw [es]
    by_cases k1 : 0 ≤ S[i]
    · by_cases k2 : S[i] < (a.sectors.length : Int)
      · rw [decide_eq_true k1, decide_eq_true k2]
        simp only [cond_true, Bool.true_and]
        rw [ck_eq (by omega), m30_eq _ _ (by have := sec_len hf S[i].toNat; omega), Option.bind_some]
        cases decide (volume ∈ (a.sectors.getD S[i].toNat default).volumes) <;> rfl
      · rw [decide_eq_false k2]; simp
    · rw [decide_eq_false k1]; simp
end Go.Fx



/- Chapter 10: the program's divisions are those of the document; splits and merges. -/
set_option linter.unusedSimpArgs false
set_option linter.unusedVariables false
set_option linter.unusedSectionVars false
namespace Go.Fx
open Go Go.RowKit
/-! masks -/
theorem testBit_or_pow {x k w : Nat} : (x ||| 2 ^ k).testBit w = (x.testBit w || decide (k = w)) := by
  rw [Nat.testBit_or]
  by_cases e : k = w
  · subst e; simp
  · rw [Nat.testBit_two_pow_of_ne e, decide_eq_false e]
theorem secGo_sound {nv : Nat} : ∀ {t : List Int} {x y : Nat}, secGo nv x t = some y → (∀ v ∈ t, 0 ≤ v ∧ v < nv) ∧ t.Nodup ∧ (∀ v ∈ t, x.testBit v.toNat = false) ∧ ∀ w, y.testBit w = (x.testBit w || decide ((w : Int) ∈ t)) := by
  intro t
  induction t with
  | nil => intro x y h; cases h; simp
  | cons v t ih =>
    intro x y h
    unfold secGo at h
    cases hc : (decide (v < 0) || (decide ((nv : Int) ≤ v) || x.testBit v.toNat))
    · rw [hc, cond_false] at h
      simp only [Bool.or_eq_false_iff, decide_eq_false_iff_not] at hc
      obtain ⟨h1, h2, h3, h4⟩ := ih h
      have h3' : ∀ u ∈ t, x.testBit u.toNat = false ∧ ¬ v.toNat = u.toNat := fun u hu => by
        have := h3 u hu; rw [testBit_or_pow, Bool.or_eq_false_iff, decide_eq_false_iff_not] at this; exact this
      refine ⟨?_, ?_, ?_, ?_⟩
      · intro u hu
        rcases List.mem_cons.1 hu with rfl | hu
        · omega
        · exact h1 u hu
      · exact List.nodup_cons.2 ⟨fun hm => (h3' v hm).2 rfl, h2⟩
      · intro u hu
        rcases List.mem_cons.1 hu with rfl | hu
        · exact hc.2.2
        · exact (h3' u hu).1
      · intro w
        rw [h4 w, testBit_or_pow, Bool.or_assoc]
        congr 1
        rw [Bool.eq_iff_iff]
        simp only [Bool.or_eq_true, decide_eq_true_eq, List.mem_cons]
        constructor
        · rintro (h | h)
          · left; omega
          · exact .inr h
        · rintro (h | h)
          · left; omega
          · exact .inr h
    · rw [hc] at h; cases h
theorem secGo_comp {nv : Nat} : ∀ {t : List Int} {x : Nat}, (∀ v ∈ t, 0 ≤ v ∧ v < (nv : Int)) → t.Nodup → (∀ v ∈ t, x.testBit v.toNat = false) → ∃ y, secGo nv x t = some y := by
  intro t
  induction t with
  | nil => intro x _ _ _; exact ⟨x, rfl⟩
  | cons v t ih =>
    intro x h1 h2 h3
    have hv := h1 v (by simp)
    have hn := List.nodup_cons.1 h2
    obtain ⟨y, hy⟩ := ih (x := x ||| 2 ^ v.toNat) (fun u hu => h1 u (by simp [hu])) hn.2 fun u hu => by
      rw [testBit_or_pow, h3 u (by simp [hu]), Bool.false_or, decide_eq_false_iff_not]
      intro e
      have hu' := h1 u (by simp [hu])
      exact hn.1 (by rw [show v = u by omega]; exact hu)
    refine ⟨y, ?_⟩
    unfold secGo
    rw [decide_eq_false (show ¬ v < 0 by omega), decide_eq_false (show ¬ (nv : Int) ≤ v by omega), h3 v (by simp)]
    exact hy
theorem secV_sound {nv : Nat} {l : List Int} {y : Nat} (h : secV nv l = some y) : l ≠ [] ∧ idxOk nv l ∧ ∀ w, y.testBit w = decide ((w : Int) ∈ l) := by
  unfold secV at h
  cases h1 : secGo nv 0 l with
  | none => rw [h1] at h; cases h
  | some x =>
    rw [h1, Option.bind_some] at h
    split at h
    · cases h
    · rename_i hx
      cases h
      obtain ⟨a1, a2, _, a4⟩ := secGo_sound h1
      refine ⟨fun e => ?_, ⟨a1, a2⟩, fun w => by rw [a4 w, Nat.zero_testBit, Bool.false_or]⟩
      subst e; cases h1; exact hx rfl
theorem secV_comp {nv : Nat} {l : List Int} (h1 : l ≠ []) (h2 : idxOk nv l) : ∃ y, secV nv l = some y := by
  obtain ⟨y, hy⟩ := secGo_comp (nv := nv) (x := 0) h2.1 h2.2 fun v _ => Nat.zero_testBit _
  unfold secV
  rw [hy, Option.bind_some]
  refine ⟨y, if_neg ?_⟩
  rintro rfl
  obtain ⟨_, _, _, a4⟩ := secGo_sound hy
  obtain ⟨v, hv⟩ := List.exists_mem_of_ne_nil l h1
  have := a4 v.toNat
  have h0 := (h2.1 v hv).1
  rw [Nat.zero_testBit, Bool.false_or, show ((v.toNat : Nat) : Int) = v by omega, decide_eq_true hv] at this
  cases this
structure Masks (a : XAirspace) (L : List Nat) : Prop where
  len : L.length = a.sectors.length
  bit : ∀ i < a.sectors.length, ∀ w, (L.getD i 0).testBit w = decide ((w : Int) ∈ (a.sectors.getD i default).volumes)
theorem setsGo_sound {nv : Nat} : ∀ {l : List XSector} {L : List Nat}, setsGo nv l = some L → (∀ s ∈ l, s.volumes ≠ [] ∧ idxOk nv s.volumes) ∧ ∀ i < l.length, ∀ w, (L.getD i 0).testBit w = decide ((w : Int) ∈ (l.getD i default).volumes) := by
  intro l
  induction l with
  | nil => intro L h; simp
  | cons s t ih =>
    intro L h
    unfold setsGo at h
    cases h1 : secV nv s.volumes with
    | none => rw [h1] at h; cases h
    | some x =>
      rw [h1, Option.bind_some] at h
      cases h2 : setsGo nv t with
      | none => rw [h2] at h; cases h
      | some M =>
        rw [h2, Option.map_some] at h
        cases h
        obtain ⟨i1, i2⟩ := ih h2
        obtain ⟨a1, a2, a3⟩ := secV_sound h1
        refine ⟨fun z hz => ?_, fun i hi w => ?_⟩
        · rcases List.mem_cons.1 hz with rfl | hz
          · exact ⟨a1, a2⟩
          · exact i1 z hz
        · cases i with
          | zero => exact a3 w
          | succ i => exact i2 i (by simpa using hi) w
theorem setsGo_comp {nv : Nat} : ∀ {l : List XSector}, (∀ s ∈ l, s.volumes ≠ [] ∧ idxOk nv s.volumes) → ∃ L, setsGo nv l = some L := by
  intro l
  induction l with
  | nil => intro _; exact ⟨[], rfl⟩
  | cons s t ih =>
    intro h
    obtain ⟨L, hL⟩ := ih fun z hz => h z (by simp [hz])
    obtain ⟨y, hy⟩ := secV_comp (h s (by simp)).1 (h s (by simp)).2
    exact ⟨y :: L, by unfold setsGo; rw [hy, hL]; rfl⟩
/-! configurations -/
def orK (secs : List Nat) (x : Nat) (c : List Int) : Nat := c.foldl (fun x s => x ||| secs.getD s.toNat 0) x
def putK (secs : List Nat) (d : List (Int × Bool)) (c : List Int) : List (Int × Bool) := c.foldl (fun d s => mput d (secs.getD s.toNat 0 : Nat) true) d
theorem or_and_zero {x m y : Nat} : (x ||| m) &&& y = 0 ↔ x &&& y = 0 ∧ m &&& y = 0 := by
  rw [Nat.and_or_distrib_right, Nat.or_eq_zero_iff]
theorem and_zero {x y : Nat} : x &&& y = 0 ↔ ∀ w, x.testBit w = true → y.testBit w = false := by
  constructor
  · intro h w hx
    have : (x &&& y).testBit w = false := by rw [h]; exact Nat.zero_testBit w
    rw [Nat.testBit_and, hx, Bool.true_and] at this; exact this
  · intro h
    refine Nat.eq_of_testBit_eq fun w => ?_
    rw [Nat.testBit_and, Nat.zero_testBit]
    cases hx : x.testBit w
    · rfl
    · rw [h w hx]; rfl
theorem cfgGo_sound {secs : List Nat} : ∀ {t : List Int} {x : Nat} {d : List (Int × Bool)} {p : Nat × List (Int × Bool)}, cfgGo secs x d t = some p → (∀ s ∈ t, 0 ≤ s ∧ s < (secs.length : Int)) ∧ t.Pairwise (fun s u => secs.getD s.toNat 0 &&& secs.getD u.toNat 0 = 0) ∧ (∀ s ∈ t, x &&& secs.getD s.toNat 0 = 0) ∧ p = (orK secs x t, putK secs d t) := by
  intro t
  induction t with
  | nil => intro x d p h; cases h; simp [orK, putK]
  | cons s t ih =>
    intro x d p h
    unfold cfgGo at h
    cases hc : (decide (s < 0) || (decide ((secs.length : Int) ≤ s) || decide (x &&& secs.getD s.toNat 0 ≠ 0)))
    · rw [hc, cond_false] at h
      simp only [Bool.or_eq_false_iff, decide_eq_false_iff_not, ne_eq, Decidable.not_not] at hc
      obtain ⟨h1, h2, h3, h4⟩ := ih h
      refine ⟨?_, ?_, ?_, h4⟩
      · intro u hu
        rcases List.mem_cons.1 hu with rfl | hu
        · omega
        · exact h1 u hu
      · exact List.pairwise_cons.2 ⟨fun u hu => (or_and_zero.1 (h3 u hu)).2, h2⟩
      · intro u hu
        rcases List.mem_cons.1 hu with rfl | hu
        · exact hc.2.2
        · exact (or_and_zero.1 (h3 u hu)).1
    · rw [hc] at h; cases h
theorem cfgGo_comp {secs : List Nat} : ∀ {t : List Int} {x : Nat} {d : List (Int × Bool)}, (∀ s ∈ t, 0 ≤ s ∧ s < (secs.length : Int)) → t.Pairwise (fun s u => secs.getD s.toNat 0 &&& secs.getD u.toNat 0 = 0) → (∀ s ∈ t, x &&& secs.getD s.toNat 0 = 0) → cfgGo secs x d t = some (orK secs x t, putK secs d t) := by
  intro t
  induction t with
  | nil => intro x d _ _ _; rfl
  | cons s t ih =>
    intro x d h1 h2 h3
    have hp := List.pairwise_cons.1 h2
    have hs := h1 s (by simp)
    unfold cfgGo
    rw [decide_eq_false (show ¬ s < 0 by omega), decide_eq_false (show ¬ (secs.length : Int) ≤ s by omega), decide_eq_false (show ¬ (x &&& secs.getD s.toNat 0 ≠ 0) from fun h => h (h3 s (by simp)))]
    exact ih (fun u hu => h1 u (by simp [hu])) hp.2 fun u hu => or_and_zero.2 ⟨h3 u (by simp [hu]), hp.1 u hu⟩
theorem orK_bit {secs : List Nat} {w : Nat} : ∀ {c : List Int} {x : Nat}, (orK secs x c).testBit w = (x.testBit w || c.any fun s => (secs.getD s.toNat 0).testBit w) := by
  intro c
  induction c with
  | nil => intro x; simp [orK]
  | cons s t ih =>
    intro x
    show (orK secs (x ||| secs.getD s.toNat 0) t).testBit w = _
    rw [ih, Nat.testBit_or, List.any_cons, Bool.or_assoc]
theorem count_le_one {α : Type} {p : α → Bool} : ∀ {l : List α}, l.Pairwise (fun a b => ¬ (p a = true ∧ p b = true)) → l.countP p ≤ 1 := by
  intro l
  induction l with
  | nil => intro _; simp
  | cons a t ih =>
    intro h
    have hp := List.pairwise_cons.1 h
    rw [List.countP_cons]
    by_cases ha : p a = true
    · have : t.countP p = 0 := List.countP_eq_zero.2 fun b hb hpb => hp.1 b hb ⟨ha, hpb⟩
      rw [this, if_pos ha]; exact Nat.le_refl _
    · rw [if_neg ha]; exact ih hp.2
theorem two_count {α : Type} {p : α → Bool} {A : List α} {a b : α} (ha : a ∈ A) (hb : b ∈ A) (hne : a ≠ b) (pa : p a = true) (pb : p b = true) : 2 ≤ A.countP p := by
  obtain ⟨l1, l2, rfl⟩ := List.append_of_mem ha
  rw [List.countP_append, List.countP_cons, pa]
  rcases List.mem_append.1 hb with h | h
  · have : 0 < l1.countP p := List.countP_pos_iff.2 ⟨b, h, pb⟩; simp; omega
  · rcases List.mem_cons.1 h with h | h
    · exact absurd h.symm hne
    · have : 0 < l2.countP p := List.countP_pos_iff.2 ⟨b, h, pb⟩; simp; omega
section cfg
variable {a : XAirspace} {secs : List Nat} (hm : Masks a secs) (hsec : ∀ s ∈ a.sectors, s.volumes ≠ [] ∧ idxOk a.volumes.length s.volumes)
include hm hsec
theorem bit_has {s : Int} (h : 0 ≤ s ∧ s < (a.sectors.length : Int)) (v : Nat) : (secs.getD s.toNat 0).testBit v = hasV a v s := by
  rw [hm.bit s.toNat (by omega) v]; rfl
theorem bit_lt {s : Int} (h : 0 ≤ s ∧ s < (a.sectors.length : Int)) {v : Nat} (hb : (secs.getD s.toNat 0).testBit v = true) : v < a.volumes.length := by
  rw [hm.bit s.toNat (by omega) v, decide_eq_true_eq] at hb
  have hmem : a.sectors.getD s.toNat default ∈ a.sectors := by rw [show a.sectors.getD s.toNat default = a.sectors[s.toNat]'(by omega) by simp [show s.toNat < a.sectors.length by omega]]; exact List.getElem_mem _
  have := (hsec _ hmem).2.1 _ hb
  omega
theorem bit_ex {s : Int} (h : 0 ≤ s ∧ s < (a.sectors.length : Int)) : ∃ v < a.volumes.length, (secs.getD s.toNat 0).testBit v = true := by
  have hmem : a.sectors.getD s.toNat default ∈ a.sectors := by rw [show a.sectors.getD s.toNat default = a.sectors[s.toNat]'(by omega) by simp [show s.toNat < a.sectors.length by omega]]; exact List.getElem_mem _
  obtain ⟨h1, h2⟩ := hsec _ hmem
  obtain ⟨v, hv⟩ := List.exists_mem_of_ne_nil _ h1
  have := h2.1 v hv
  refine ⟨v.toNat, by omega, ?_⟩
  rw [hm.bit s.toNat (by omega), show ((v.toNat : Nat) : Int) = v by omega, decide_eq_true hv]
theorem all_bits (x : Nat) : x = 2 ^ a.volumes.length - 1 ↔ ∀ w, x.testBit w = decide (w < a.volumes.length) := by
  constructor
  · rintro rfl w; exact Nat.testBit_two_pow_sub_one _ _
  · intro h; exact Nat.eq_of_testBit_eq fun w => by rw [h w, Nat.testBit_two_pow_sub_one]
theorem cfgV_sound {c : List Int} {d : List (Int × Bool)} (h : cfgV a.volumes.length secs c = some d) : divOk a c ∧ d = putK secs [] c := by
  unfold cfgV at h
  cases h1 : cfgGo secs 0 [] c with
  | none => rw [h1] at h; cases h
  | some p =>
    rw [h1, Option.bind_some] at h
    split at h
    · rename_i hp
      cases h
      obtain ⟨a1, a2, _, a4⟩ := cfgGo_sound h1
      subst a4
      have hall := (all_bits hm hsec _).1 hp
      rw [hm.len] at a1
      refine ⟨⟨⟨a1, ?_⟩, fun v hv => ?_⟩, rfl⟩
      · refine a2.imp_of_mem fun {s u} hs hu hd e => ?_
        subst e
        obtain ⟨v, _, hb⟩ := bit_ex hm hsec (a1 _ hs)
        have := and_zero.1 hd v hb
        rw [hb] at this; cases this
      · have h2 : c.countP (hasV a v) ≤ 1 := count_le_one (a2.imp_of_mem fun {s u} hs hu hd hh => by
          have := and_zero.1 hd v (by rw [bit_has hm hsec (a1 _ hs)]; exact hh.1)
          rw [bit_has hm hsec (a1 _ hu), hh.2] at this; cases this)
        have h3 : 0 < c.countP (hasV a v) := by
          have := hall v
          rw [orK_bit, Nat.zero_testBit, Bool.false_or, decide_eq_true hv, List.any_eq_true] at this
          obtain ⟨s, hs, hb⟩ := this
          exact List.countP_pos_iff.2 ⟨s, hs, by rw [← bit_has hm hsec (a1 _ hs)]; exact hb⟩
        omega
    · cases h
theorem div_disj {c : List Int} (h : divOk a c) : c.Pairwise (fun s u => secs.getD s.toNat 0 &&& secs.getD u.toNat 0 = 0) := by
  refine List.Pairwise.imp_of_mem (R := fun a b => a ≠ b) (fun {s u} hs hu hne => and_zero.2 fun w hw => ?_) h.1.2
  have hlt := bit_lt hm hsec (h.1.1 _ hs) hw
  cases hb : (secs.getD u.toNat 0).testBit w
  · rfl
  · have := two_count (p := hasV a w) hs hu hne (by rw [← bit_has hm hsec (h.1.1 _ hs)]; exact hw) (by rw [← bit_has hm hsec (h.1.1 _ hu)]; exact hb)
    have := h.2 w hlt
    omega
theorem cfgV_comp {c : List Int} (h : divOk a c) : cfgV a.volumes.length secs c = some (putK secs [] c) := by
  unfold cfgV
  rw [cfgGo_comp (x := 0) (d := []) (by rw [hm.len]; exact h.1.1) (div_disj hm hsec h) (fun s _ => Nat.zero_and _), Option.bind_some]
  refine if_pos ((all_bits hm hsec _).2 fun w => ?_)
  rw [orK_bit, Nat.zero_testBit, Bool.false_or, Bool.eq_iff_iff, List.any_eq_true, decide_eq_true_eq]
  constructor
  · rintro ⟨s, hs, hb⟩; exact bit_lt hm hsec (h.1.1 _ hs) hb
  · intro hw
    have := h.2 w hw
    obtain ⟨s, hs, hp⟩ := List.countP_pos_iff.1 (show 0 < c.countP (hasV a w) by omega)
    exact ⟨s, hs, by rw [bit_has hm hsec (h.1.1 _ hs)]; exact hp⟩
theorem divGo_sound : ∀ {l : List XConfig} {L : List (List (Int × Bool))}, divGo a.volumes.length secs l = some L → (∀ c ∈ l, divOk a c.sectors) ∧ L = l.map fun c => putK secs [] c.sectors := by
  intro l
  induction l with
  | nil => intro L h; cases h; simp
  | cons c t ih =>
    intro L h
    unfold divGo at h
    cases h1 : cfgV a.volumes.length secs c.sectors with
    | none => rw [h1] at h; cases h
    | some d =>
      rw [h1, Option.bind_some] at h
      cases h2 : divGo a.volumes.length secs t with
      | none => rw [h2] at h; cases h
      | some M =>
        rw [h2, Option.map_some] at h
        cases h
        obtain ⟨i1, i2⟩ := ih h2
        obtain ⟨a1, a2⟩ := cfgV_sound hm hsec h1
        subst a2 i2
        refine ⟨fun z hz => ?_, rfl⟩
        rcases List.mem_cons.1 hz with rfl | hz
        · exact a1
        · exact i1 z hz
theorem divGo_comp : ∀ {l : List XConfig}, (∀ c ∈ l, divOk a c.sectors) → divGo a.volumes.length secs l = some (l.map fun c => putK secs [] c.sectors) := by
  intro l
  induction l with
  | nil => intro _; rfl
  | cons c t ih =>
    intro h
    unfold divGo
    rw [cfgV_comp hm hsec (h c (by simp)), ih fun z hz => h z (by simp [hz])]
    rfl
end cfg
theorem divV_ok {a : XAirspace} (h : OKa a) : ∃ secs, Masks a secs ∧ divV a = some (a.configs.map fun c => putK secs [] c.sectors) := by
  obtain ⟨L, hL⟩ := setsGo_comp h.sec
  have hm : Masks a L := ⟨(setsGo_lt hL).2, (setsGo_sound hL).2⟩
  refine ⟨L, hm, ?_⟩
  unfold divV
  have : shapeB a = true := by unfold shapeB; rw [decide_eq_true h.nv1, decide_eq_true h.nc1]; rfl
  rw [this, cond_true, hL, Option.bind_some, divGo_comp hm h.sec h.cfg]
theorem divV_bad {a : XAirspace} (h : ¬ OKa a) : divV a = none := by
  cases e : divV a with
  | none => rfl
  | some D =>
    exfalso
    unfold divV at e
    cases hs : shapeB a
    · rw [hs] at e; cases e
    · rw [hs, cond_true] at e
      cases h1 : setsGo a.volumes.length a.sectors with
      | none => rw [h1] at e; cases e
      | some L =>
        rw [h1, Option.bind_some] at e
        have hsec := (setsGo_sound h1).1
        have hm : Masks a L := ⟨(setsGo_lt h1).2, (setsGo_sound h1).2⟩
        unfold shapeB at hs
        simp only [Bool.and_eq_true, decide_eq_true_eq] at hs
        exact h ⟨hs.1, hs.2, hsec, (divGo_sound hm hsec e).1⟩
/-! the maps -/
def keysOf (d : List (Int × Bool)) : List Nat := d.map fun p => p.1.toNat
structure MapT (d : List (Int × Bool)) : Prop where
  ris : Ris d
  tru : ∀ p ∈ d, p.2 = true ∧ 0 ≤ p.1
  len : d.length ≤ 10
theorem putK_ris {secs : List Nat} : ∀ {c : List Int} {d : List (Int × Bool)}, Ris d → Ris (putK secs d c) := by
  intro c
  induction c with
  | nil => intro d h; exact h
  | cons s t ih => intro d h; exact ih (mput_ris h _ _)
theorem putK_mem {secs : List Nat} {p : Int × Bool} : ∀ {c : List Int} {d : List (Int × Bool)}, Ris d → (∀ q ∈ d, q.2 = true) → (p ∈ putK secs d c ↔ p ∈ d ∨ ∃ s ∈ c, p = (((secs.getD s.toNat 0 : Nat) : Int), true)) := by
  intro c
  induction c with
  | nil => intro d h ht; simp [putK]
  | cons s t ih =>
    intro d h ht
    have ht' : ∀ q ∈ mput d (secs.getD s.toNat 0 : Nat) true, q.2 = true := fun q hq => by
      rcases (mput_mem h _ _ q).1 hq with e | ⟨e, _⟩
      · rw [e]
      · exact ht q e
    show p ∈ putK secs (mput d (secs.getD s.toNat 0 : Nat) true) t ↔ _
    rw [ih (mput_ris h _ _) ht', mput_mem h]
    constructor
    · rintro ((h1 | ⟨h1, _⟩) | ⟨u, hu, h1⟩)
      · exact .inr ⟨s, by simp, h1⟩
      · exact .inl h1
      · exact .inr ⟨u, by simp [hu], h1⟩
    · rintro (h1 | ⟨u, hu, h1⟩)
      · by_cases e : p.1 = ((secs.getD s.toNat 0 : Nat) : Int)
        · refine .inl (.inl ?_)
          obtain ⟨k, b⟩ := p
          have := ht _ h1
          simp only at e this
          rw [e, this]
        · exact .inl (.inr ⟨h1, e⟩)
      · rcases List.mem_cons.1 hu with rfl | hu
        · exact .inl (.inl h1)
        · exact .inr ⟨u, hu, h1⟩
theorem ris_keys {d : List (Int × Bool)} (h : Ris d) (hn : ∀ p ∈ d, 0 ≤ p.1) : (keysOf d).Nodup := by
  unfold keysOf
  rw [List.nodup_iff_pairwise_ne, List.pairwise_map]
  exact List.Pairwise.imp_of_mem (fun {p q} hp hq hlt => by have := hn p hp; have := hn q hq; omega) h
section keys
variable {a : XAirspace} {secs : List Nat} (hm : Masks a secs) (hsec : ∀ s ∈ a.sectors, s.volumes ≠ [] ∧ idxOk a.volumes.length s.volumes) {c : List Int} (h : divOk a c)
include hm hsec h
omit hm hsec h in
theorem keys_mem {m : Nat} : m ∈ keysOf (putK secs [] c) ↔ ∃ s ∈ c, m = secs.getD s.toNat 0 := by
  unfold keysOf
  simp only [List.mem_map, putK_mem (d := []) List.Pairwise.nil (by simp), List.not_mem_nil, false_or]
  constructor
  · rintro ⟨p, ⟨s, hs, rfl⟩, rfl⟩; exact ⟨s, hs, by simp⟩
  · rintro ⟨s, hs, rfl⟩; exact ⟨_, ⟨s, hs, rfl⟩, Int.toNat_natCast _⟩
omit hm hsec h in
theorem put_tru {p : Int × Bool} (hp : p ∈ putK secs [] c) : p.2 = true ∧ 0 ≤ p.1 := by
  rw [putK_mem (d := []) List.Pairwise.nil (by simp)] at hp
  rcases hp with hp | ⟨s, _, rfl⟩
  · cases hp
  · exact ⟨rfl, Int.natCast_nonneg _⟩
omit hm hsec h in
theorem put_nodup : (keysOf (putK secs [] c)).Nodup := ris_keys (putK_ris List.Pairwise.nil) fun p hp => (put_tru hp).2
theorem keys_len : (keysOf (putK secs [] c)).length = c.length := by
  have hn : (c.map fun s => secs.getD s.toNat 0).Nodup := by
    rw [List.nodup_iff_pairwise_ne, List.pairwise_map]
    refine List.Pairwise.imp_of_mem (fun {s u} hs hu hd e => ?_) (div_disj hm hsec h)
    obtain ⟨v, _, hb⟩ := bit_ex hm hsec (h.1.1 _ hs)
    have := and_zero.1 hd v hb
    rw [← e, hb] at this; cases this
  have hp : (keysOf (putK secs [] c)).Perm (c.map fun s => secs.getD s.toNat 0) := (List.perm_ext_iff_of_nodup put_nodup hn).2 fun m => by
    rw [keys_mem, List.mem_map]
    exact ⟨fun ⟨s, hs, e⟩ => ⟨s, hs, e.symm⟩, fun ⟨s, hs, e⟩ => ⟨s, hs, e.symm⟩⟩
  rw [hp.length_eq, List.length_map]
theorem keys_part : Part a.volumes.length (keysOf (putK secs [] c)) := by
  have u1 : ∀ {s u : Int} {v : Nat}, s ∈ c → u ∈ c → (secs.getD s.toNat 0).testBit v = true → (secs.getD u.toNat 0).testBit v = true → s = u := fun {s u v} hs hu h1 h2 => by
    refine Classical.byContradiction fun hne => ?_
    have := two_count (p := hasV a v) hs hu hne (by rw [← bit_has hm hsec (h.1.1 _ hs)]; exact h1) (by rw [← bit_has hm hsec (h.1.1 _ hu)]; exact h2)
    have := h.2 v (bit_lt hm hsec (h.1.1 _ hs) h1)
    omega
  refine ⟨put_nodup, fun m hmm => ?_, fun m hmm v hv => ?_, fun v hv => ?_, fun m hmm m' hmm' v h1 h2 => ?_⟩
  · obtain ⟨s, hs, rfl⟩ := keys_mem.1 hmm
    exact bit_ex hm hsec (h.1.1 _ hs)
  · obtain ⟨s, hs, rfl⟩ := keys_mem.1 hmm
    exact bit_lt hm hsec (h.1.1 _ hs) hv
  · have := h.2 v hv
    obtain ⟨s, hs, hp⟩ := List.countP_pos_iff.1 (show 0 < c.countP (hasV a v) by omega)
    exact ⟨_, keys_mem.2 ⟨s, hs, rfl⟩, by rw [bit_has hm hsec (h.1.1 _ hs)]; exact hp⟩
  · obtain ⟨s, hs, rfl⟩ := keys_mem.1 hmm
    obtain ⟨u, hu, rfl⟩ := keys_mem.1 hmm'
    rw [u1 hs hu h1 h2]
theorem put_map (hl : c.length ≤ 10) : MapT (putK secs [] c) := ⟨putK_ris List.Pairwise.nil, fun p hp => put_tru hp, by have := keys_len hm hsec h; unfold keysOf at this; rw [List.length_map] at this; omega⟩
theorem tog_iff {v w : Nat} (hv : v < a.volumes.length) : tog (keysOf (putK secs [] c)) v w ↔ ∃ s ∈ c, hasV a v s = true ∧ hasV a w s = true := by
  constructor
  · rintro ⟨m, hmm, h1, h2⟩
    obtain ⟨s, hs, rfl⟩ := keys_mem.1 hmm
    rw [bit_has hm hsec (h.1.1 _ hs)] at h1 h2
    exact ⟨s, hs, h1, h2⟩
  · rintro ⟨s, hs, h1, h2⟩
    exact ⟨_, keys_mem.2 ⟨s, hs, rfl⟩, by rw [bit_has hm hsec (h.1.1 _ hs)]; exact h1, by rw [bit_has hm hsec (h.1.1 _ hs)]; exact h2⟩
end keys
/-! steps -/
def stepN (A B : Nat) : Bool := decide ((A = 0 ∧ B = 0) ∨ (A = 1 ∧ B = 2) ∨ (A = 2 ∧ B = 1))
def stepB (d o : List (Int × Bool)) : Bool := stepN (miss (keysOf d) (keysOf o)) (miss (keysOf o) (keysOf d))
theorem stepB_iff {d o : List (Int × Bool)} : stepB d o = true ↔ stepK (keysOf d) (keysOf o) := by unfold stepB stepN stepK; rw [decide_eq_true_iff]
theorem get_key {o : List (Int × Bool)} (ho : MapT o) {n : Int} (hn : 0 ≤ n) : (mget o n).getD false = decide (n.toNat ∈ keysOf o) := by
  rw [Bool.eq_iff_iff, decide_eq_true_eq]
  unfold keysOf
  rw [List.mem_map]
  constructor
  · intro h
    cases e : mget o n with
    | none => rw [e] at h; cases h
    | some b => exact ⟨_, mget_some e, rfl⟩
  · rintro ⟨p, hp, e⟩
    have := ho.tru p hp
    obtain ⟨k, b⟩ := p
    simp only at e this
    have hk : k = n := by omega
    subst hk
    rw [mget_of ho.ris hp, this.1]; rfl
theorem m43_eq (d o : List (Int × Bool)) (hd : MapT d) (ho : MapT o) : m43_configs_missing d o = some ((miss (keysOf d) (keysOf o) : Nat) : Int) := by
  unfold m43_configs_missing
  show mrng (m43_configs_missing_B0 o) m43_configs_missing_K0 d 0 = _
  rw [mrng_fold (f := fun p n => bif !((mget o p.1).getD false) then IntKind.wrap .i64 (n + 1) else n)]
  · have : ∀ (l : List (Int × Bool)) (n : Nat), n + l.length ≤ 100 → l.foldl (fun n p => bif !((mget o p.1).getD false) then IntKind.wrap .i64 (n + 1) else n) (n : Int) = ((n + l.countP (fun p => !((mget o p.1).getD false)) : Nat) : Int) := by
      intro l
      induction l with
      | nil => intro n _; simp
      | cons p t ih =>
        intro n hn
        simp only [List.length_cons] at hn
        rw [List.foldl_cons, List.countP_cons]
        cases (!((mget o p.1).getD false))
        · rw [cond_false, ih n (by omega)]; simp
        · rw [cond_true, wrapS (by omega)]
          have := ih (n + 1) (by omega)
          rw [show ((n + 1 : Nat) : Int) = (n : Int) + 1 by omega] at this
          rw [this]; simp; omega
    have h1 := this d 0 (by have := hd.len; omega)
    unfold m43_configs_missing_K0
    rw [show (0 : Int) = ((0 : Nat) : Int) from rfl, h1]
    congr 2
    rw [Nat.zero_add]
    unfold miss keysOf
    rw [List.countP_map]
    refine List.countP_congr fun p hp => ?_
    have := get_key ho (hd.tru p hp).2
    rw [this]
    unfold keysOf
    simp
  · intro sf x hx s
    unfold m43_configs_missing_B0
    cases (!((mget o x.1).getD false)) <;> rfl
  · intro x _ y _ s
    cases (!((mget o x.1).getD false)) <;> cases (!((mget o y.1).getD false)) <;> rfl
theorem m36_eq (d o : List (Int × Bool)) (hd : MapT d) (ho : MapT o) : m36_configs_step d o = some (stepB d o) := by
  unfold m36_configs_step
  rw [m43_eq d o hd ho, m43_eq o d ho hd]
  simp only [Option.bind_some, jn_eq]
  unfold stepB stepN
  generalize miss (keysOf d) (keysOf o) = A
  generalize miss (keysOf o) (keysOf d) = B
  by_cases h0 : A = 0
  · subst h0
    by_cases k : B = 0
    · subst k; rfl
    · have : ¬ ((B : Int) = 0) := by omega
      simp [this, k]
  by_cases h1 : A = 1
  · subst h1
    by_cases k : B = 2
    · subst k; rfl
    · have : ¬ ((B : Int) = 2) := by omega
      simp [this, k]
  by_cases h2 : A = 2
  · subst h2
    by_cases k : B = 1
    · subst k; rfl
    · have : ¬ ((B : Int) = 1) := by omega
      simp [this, k]
  · have k0 : ¬ ((A : Int) = 0) := by omega
    have k1 : ¬ ((A : Int) = 1) := by omega
    have k2 : ¬ ((A : Int) = 2) := by omega
    simp [k0, k1, k2, h0, h1, h2]
end Go.Fx



/- Chapter 10: steps, of the program and of the document. -/
set_option linter.unusedSimpArgs false
set_option linter.unusedVariables false
namespace Go.Fx
open Go Go.RowKit
def lay (a : XAirspace) : List (List (Int × Bool)) := (divV a).getD []
structure LayOk (a : XAirspace) : Prop where
  nv1 : 1 ≤ a.volumes.length
  nc1 : 1 ≤ a.configs.length
  len : (lay a).length = a.configs.length
  map : ∀ i < a.configs.length, MapT ((lay a).getD i default)
  part : ∀ i < a.configs.length, Part a.volumes.length (keysOf ((lay a).getD i default))
  klen : ∀ i < a.configs.length, (keysOf ((lay a).getD i default)).length = (a.configs.getD i default).sectors.length
  togs : ∀ i < a.configs.length, ∀ v < a.volumes.length, ∀ w, tog (keysOf ((lay a).getD i default)) v w ↔ ∃ s ∈ (a.configs.getD i default).sectors, hasV a v s = true ∧ hasV a w s = true
  cfg : ∀ i < a.configs.length, divOk a (a.configs.getD i default).sectors
theorem lay_ok {a : XAirspace} (hf : Few10 a) (h : OKa a) : LayOk a ∧ divV a = some (lay a) := by
  obtain ⟨secs, hm, e⟩ := divV_ok h
  have el : lay a = a.configs.map fun c => putK secs [] c.sectors := by unfold lay; rw [e]; rfl
  have gi : ∀ i, i < a.configs.length → (lay a).getD i default = putK secs [] (a.configs.getD i default).sectors ∧ a.configs.getD i default ∈ a.configs := fun i hi => by
    have h2 : a.configs.getD i default = a.configs[i] := by simp [hi]
    rw [el, h2]
    exact ⟨by simp [hi], List.getElem_mem _⟩
  refine ⟨⟨h.nv1, h.nc1, by rw [el, List.length_map], fun i hi => ?_, fun i hi => ?_, fun i hi => ?_, fun i hi v hv w => ?_, fun i hi => h.cfg _ (gi i hi).2⟩, by rw [el]; exact e⟩
  · rw [(gi i hi).1]; exact put_map hm h.sec (h.cfg _ (gi i hi).2) (hf.cl _ (gi i hi).2)
  · rw [(gi i hi).1]; exact keys_part hm h.sec (h.cfg _ (gi i hi).2)
  · rw [(gi i hi).1]; exact keys_len hm h.sec (h.cfg _ (gi i hi).2)
  · rw [(gi i hi).1]; exact tog_iff hm h.sec (h.cfg _ (gi i hi).2) hv
def adjN (a : XAirspace) (i j : Nat) : Bool := decide (i ≠ j) && stepB ((lay a).getD i default) ((lay a).getD j default)
theorem adjN_symm (a : XAirspace) (i j : Nat) : adjN a i j = adjN a j i := by
  unfold adjN
  rw [show decide (i ≠ j) = decide (j ≠ i) by rw [Bool.eq_iff_iff]; simp only [decide_eq_true_eq]; exact ⟨Ne.symm, Ne.symm⟩]
  congr 1
  rw [Bool.eq_iff_iff, stepB_iff, stepB_iff]; exact stepK_symm
def inR (a : XAirspace) (n : Int) : Bool := decide (0 ≤ n) && decide (n < (a.configs.length : Int))
noncomputable def stepM (a : XAirspace) (f t : Int) : Bool := okB a && (inR a f && (inR a t && adjN a f.toNat t.toNat))
theorem inR_true {a : XAirspace} {n : Int} : inR a n = true ↔ 0 ≤ n ∧ n < (a.configs.length : Int) := by unfold inR; simp
theorem m31_ok {a : XAirspace} (hf : Few10 a) (h : OKa a) : m31_configs_divisions a = some (lay a, true) := by
  rw [m31_eq a hf, (lay_ok hf h).2]; rfl
theorem m31_bad {a : XAirspace} (hf : Few10 a) (h : ¬ OKa a) : m31_configs_divisions a = some ([], false) := by
  rw [m31_eq a hf, divV_bad h]; rfl
/-! the document's -/
theorem secOf_ok {a : XAirspace} {c : List Int} (h : divOk a c) {v : Nat} (hv : v < a.volumes.length) : ∃ s ∈ c, hasV a v s = true ∧ secOf a v c = (s, true) := by
  have h1 := h.2 v hv
  obtain ⟨s, hs, hp⟩ := List.countP_pos_iff.1 (show 0 < c.countP (hasV a v) by omega)
  unfold secOf
  cases e : c.find? (fun s => decide (0 ≤ s) && (decide (s < (a.sectors.length : Int)) && decide ((v : Int) ∈ (a.sectors.getD s.toNat default).volumes))) with
  | none =>
    rw [List.find?_eq_none] at e
    have hr := h.1.1 _ hs
    have := e s hs
    unfold hasV at hp
    rw [decide_eq_true hr.1, decide_eq_true hr.2, hp] at this
    simp at this
  | some u =>
    have hu := List.mem_of_find?_eq_some e
    have hp := List.find?_some e
    simp only [Bool.and_eq_true] at hp
    exact ⟨u, hu, hp.2.2, rfl⟩
theorem has_uniq {a : XAirspace} {c : List Int} (h : divOk a c) {v : Nat} (hv : v < a.volumes.length) {s u : Int} (hs : s ∈ c) (hu : u ∈ c) (h1 : hasV a v s = true) (h2 : hasV a v u = true) : s = u := by
  refine Classical.byContradiction fun hne => ?_
  have := two_count hs hu hne h1 h2
  have := h.2 v hv
  omega
theorem together_iff {a : XAirspace} {c : List Int} (h : divOk a c) {v w : Nat} (hv : v < a.volumes.length) (hw : w < a.volumes.length) : (secOf a v c).1 = (secOf a w c).1 ↔ ∃ s ∈ c, hasV a v s = true ∧ hasV a w s = true := by
  obtain ⟨s, hs, h1, e1⟩ := secOf_ok h hv
  obtain ⟨u, hu, h2, e2⟩ := secOf_ok h hw
  rw [e1, e2]
  constructor
  · rintro rfl; exact ⟨_, hs, h1, h2⟩
  · rintro ⟨r, hr, h3, h4⟩
    exact (has_uniq h hv hs hr h1 h3).trans (has_uniq h hw hr hu h4 h2)
def togB (a : XAirspace) (c v w : Nat) : Bool := decide ((sectorM a c v).1 = (sectorM a c w).1)
theorem m44_eq (a : XAirspace) (hf : Few10 a) (c v w : Nat) : m44_overflightref10_together a c v w = some (togB a c v w) := by
  unfold m44_overflightref10_together
  rw [m14_eq a hf, m14_eq a hf]; rfl
theorem togB_iff {a : XAirspace} (L : LayOk a) {c : Nat} (hc : c < a.configs.length) {v w : Nat} (hv : v < a.volumes.length) (hw : w < a.volumes.length) : togB a c v w = true ↔ tog (keysOf ((lay a).getD c default)) v w := by
  rw [L.togs c hc v hv w, ← together_iff (L.cfg c hc) hv hw]
  unfold togB sectorM
  rw [decide_eq_true_iff, decide_eq_false (show ¬ (c : Int) < 0 by omega), decide_eq_false (show ¬ (a.configs.length : Int) ≤ c by omega)]
  rfl
theorem m37_eq (a : XAirspace) (hf : Few10 a) (f t : Nat) : m37_overflightref10_finer a f t = some (decide (∀ v < a.volumes.length, ∀ w < v, togB a f v w = true → togB a t v w = true)) := by
  have hnv := hf.nv
  unfold m37_overflightref10_finer
  have inner : ∀ (sf : Int → Option Bool) (v : Nat), v < a.volumes.length → IntKind.i64.wrap ((v : Int) + 1) = (v : Int) + 1 → loop1 (m37_overflightref10_finer_B1 a f t v sf) (((v : Int) - 0).toNat + 1) 0 = bif decide (∀ w < v, togB a f v w = true → togB a t v w = true) then sf ((v : Int) + 1) else some false := by
    intro sf v hv hw
    have hl : (List.range v).length = v := List.length_range
    refine (up_listI (B := m37_overflightref10_finer_B1 a f t v sf) (fun i l => bif decide (∀ k < l.length, togB a f v (i + k) = true → togB a t v (i + k) = true) then sf ((v : Int) + 1) else some false) (List.range v) (by rw [hl]; omega) ?_ ?_ (by rw [hl]; omega)).trans ?_
    · intro sf2
      rw [hl]
      unfold m37_overflightref10_finer_B1
      simp only [Int.lt_irrefl, decide_false, cond_false, hw]
      rw [decide_eq_true (p := ∀ k < ([] : List Nat).length, togB a f v (v + k) = true → togB a t v (v + k) = true) fun k hk => absurd hk (Nat.not_lt_zero k)]; rfl
    · intro sf2 i x l h1 h2 h3 ih
      rw [hl] at h1
      unfold m37_overflightref10_finer_B1
      simp only [decide_eq_true (ipos h1), cond_true, h3, jn_eq]
      rw [m44_eq a hf, m44_eq a hf, ih]
      simp only [Option.bind_some]
      have e : decide (∀ k < (x :: l).length, togB a f v (i + k) = true → togB a t v (i + k) = true) = ((!togB a f v i || togB a t v i) && decide (∀ k < l.length, togB a f v (i + 1 + k) = true → togB a t v (i + 1 + k) = true)) := by
        rw [Bool.eq_iff_iff, decide_eq_true_iff, Bool.and_eq_true, decide_eq_true_iff, List.length_cons]
        constructor
        · intro h
          refine ⟨?_, fun k hk => by have := h (k + 1) (by omega); rw [show i + (k + 1) = i + 1 + k by omega] at this; exact this⟩
          have := h 0 (by omega)
          rw [Nat.add_zero] at this
          revert this; cases togB a f v i <;> cases togB a t v i <;> simp
        · rintro ⟨h1, h2⟩ k hk
          cases k with
          | zero => rw [Nat.add_zero]; revert h1; cases togB a f v i <;> cases togB a t v i <;> simp
          | succ k => rw [show i + (k + 1) = i + 1 + k by omega]; exact h2 k (by omega)
      rw [e]
      cases togB a f v i <;> cases togB a t v i <;> rfl
    · simp only [Nat.zero_add, hl]
  refine (up_listI (fun i l => some (decide (∀ k < l.length, ∀ w < i + k, togB a f (i + k) w = true → togB a t (i + k) w = true))) a.volumes (by omega) ?_ ?_ (show a.volumes.length < ((a.volumes.length : Int) - 0).toNat + 1 by omega)).trans ?_
  · intro sf
    unfold m37_overflightref10_finer_B0
    simp only [Int.lt_irrefl, decide_false, cond_false]
    rw [decide_eq_true (p := ∀ k < ([] : List XVolume).length, ∀ w < a.volumes.length + k, togB a f (a.volumes.length + k) w = true → togB a t (a.volumes.length + k) w = true) fun k hk => absurd hk (Nat.not_lt_zero k)]
  · intro sf i x l h1 h2 h3 ih
    unfold m37_overflightref10_finer_B0
    simp only [decide_eq_true (ipos h1), cond_true]
    rw [inner sf i h1 h3, ih]
    have e : decide (∀ k < (x :: l).length, ∀ w < i + k, togB a f (i + k) w = true → togB a t (i + k) w = true) = (decide (∀ w < i, togB a f i w = true → togB a t i w = true) && decide (∀ k < l.length, ∀ w < i + 1 + k, togB a f (i + 1 + k) w = true → togB a t (i + 1 + k) w = true)) := by
      rw [Bool.eq_iff_iff, decide_eq_true_iff, Bool.and_eq_true, decide_eq_true_iff, decide_eq_true_iff, List.length_cons]
      constructor
      · intro h
        exact ⟨h 0 (by omega), fun k hk => by have := h (k + 1) (by omega); rw [show i + (k + 1) = i + 1 + k by omega] at this; exact this⟩
      · rintro ⟨h1, h2⟩ k hk
        cases k with
        | zero => exact h1
        | succ k => rw [show i + (k + 1) = i + 1 + k by omega]; exact h2 k (by omega)
    rw [e]
    cases decide (∀ w < i, togB a f i w = true → togB a t i w = true) <;> rfl
  · simp only [Nat.zero_add]
theorem tog_symm {K : List Nat} {v w : Nat} (h : tog K v w) : tog K w v := by obtain ⟨m, h1, h2, h3⟩ := h; exact ⟨m, h1, h3, h2⟩
theorem m37_finer (a : XAirspace) (hf : Few10 a) (L : LayOk a) {f t : Nat} (hF : f < a.configs.length) (hT : t < a.configs.length) : ∃ b, m37_overflightref10_finer a f t = some b ∧ (b = true ↔ finerK a.volumes.length (keysOf ((lay a).getD f default)) (keysOf ((lay a).getD t default))) := by
  refine ⟨_, m37_eq a hf f t, ?_⟩
  rw [decide_eq_true_iff]
  constructor
  · intro h v hv w hw ht
    rcases Nat.lt_trichotomy w v with e | e | e
    · exact (togB_iff L hT hv hw).1 (h v hv w e ((togB_iff L hF hv hw).2 ht))
    · subst e
      obtain ⟨m, h1, h2⟩ := (L.part t hT).cov w hv
      exact ⟨m, h1, h2, h2⟩
    · exact tog_symm ((togB_iff L hT hw hv).1 (h w hw v e ((togB_iff L hF hw hv).2 (tog_symm ht))))
  · intro h v hv w hw ht
    exact (togB_iff L hT hv (by omega)).2 (h v hv w (by omega) ((togB_iff L hF hv (by omega)).1 ht))
theorem m20_eq (a : XAirspace) (hf : Few10 a) (f t : Int) : m20_overflightref10_Step a f t = some (stepM a f t) := by
  unfold m20_overflightref10_Step stepM
  simp only [jn_eq]
  rw [m16_eq a hf, Option.bind_some]
  by_cases h : OKa a
  · obtain ⟨L, _⟩ := lay_ok hf h
    rw [okB_true.2 h]
    simp only [cond_true, ne_eq, not_true_eq_false, decide_false, cond_false, Bool.true_and]
    by_cases f1 : f < 0
    · have : inR a f = false := by unfold inR; rw [decide_eq_false (show ¬ 0 ≤ f by omega)]; rfl
      rw [decide_eq_true f1, this]; rfl
    by_cases f2 : (a.configs.length : Int) ≤ f
    · have : inR a f = false := by unfold inR; rw [decide_eq_false (show ¬ f < (a.configs.length : Int) by omega), Bool.and_false]
      rw [decide_eq_false f1, decide_eq_true f2, this]; rfl
    by_cases t1 : t < 0
    · have : inR a t = false := by unfold inR; rw [decide_eq_false (show ¬ 0 ≤ t by omega)]; rfl
      rw [decide_eq_false f1, decide_eq_false f2, decide_eq_true t1, this]; simp
    by_cases t2 : (a.configs.length : Int) ≤ t
    · have : inR a t = false := by unfold inR; rw [decide_eq_false (show ¬ t < (a.configs.length : Int) by omega), Bool.and_false]
      rw [decide_eq_false f1, decide_eq_false f2, decide_eq_false t1, decide_eq_true t2, this]; simp
    rw [decide_eq_false f1, decide_eq_false f2, decide_eq_false t1, decide_eq_false t2, inR_true.2 ⟨by omega, by omega⟩, inR_true.2 ⟨by omega, by omega⟩]
    simp only [cond_false, Bool.true_and]
    by_cases e : f = t
    · subst e; unfold adjN; simp
    · obtain ⟨i, rfl⟩ : ∃ i : Nat, f = i := ⟨f.toNat, by omega⟩
      obtain ⟨j, rfl⟩ : ∃ j : Nat, t = j := ⟨t.toNat, by omega⟩
      have hi : i < a.configs.length := by omega
      have hj : j < a.configs.length := by omega
      have ci := hf.cl (a.configs.getD i default) (by rw [show a.configs.getD i default = a.configs[i] by simp [hi]]; exact List.getElem_mem _)
      have cj := hf.cl (a.configs.getD j default) (by rw [show a.configs.getD j default = a.configs[j] by simp [hj]]; exact List.getElem_mem _)
      rw [decide_eq_false e, cond_false, ck_eq (by omega), ck_eq (by omega)]
      rw [show ((i : Nat) : Int).toNat = i from rfl, show ((j : Nat) : Int).toNat = j from rfl]
      have hS := stepK_iff (L.part i hi) (L.part j hj)
      rw [L.klen i hi, L.klen j hj] at hS
      obtain ⟨b1, e1, s1⟩ := m37_finer a hf L hi hj
      obtain ⟨b2, e2, s2⟩ := m37_finer a hf L hj hi
      rw [← s1, ← s2] at hS
      rw [e1, e2]
      have hadj : adjN a i j = stepB ((lay a).getD i default) ((lay a).getD j default) := by
        unfold adjN; rw [decide_eq_true (show i ≠ j by omega), Bool.true_and]
      rw [hadj]
      rw [← stepB_iff] at hS
      generalize stepB ((lay a).getD i default) ((lay a).getD j default) = sb at hS ⊢
      generalize (a.configs.getD i default).sectors.length = A at ci hS ⊢
      generalize (a.configs.getD j default).sectors.length = B at cj hS ⊢
      rw [wrap_i64 (by omega) (by omega)]
      simp only [Option.bind_some]
      by_cases k0 : A = B
      · rw [decide_eq_true (show (A : Int) - B = 0 by omega)]
        simp only [cond_true]
        congr 1
        rw [Bool.eq_iff_iff, hS]
        constructor
        · intro h; exact .inl ⟨.inl k0, h⟩
        · rintro (⟨_, h⟩ | ⟨h, _⟩)
          · exact h
          · omega
      by_cases k1 : A = B + 1
      · rw [decide_eq_false (show ¬ (A : Int) - B = 0 by omega), decide_eq_true (show (A : Int) - B = 1 by omega)]
        simp only [cond_true, cond_false]
        congr 1
        rw [Bool.eq_iff_iff, hS]
        constructor
        · intro h; exact .inl ⟨.inr k1, h⟩
        · rintro (⟨_, h⟩ | ⟨h, _⟩)
          · exact h
          · omega
      by_cases k2 : B = A + 1
      · rw [decide_eq_false (show ¬ (A : Int) - B = 0 by omega), decide_eq_false (show ¬ (A : Int) - B = 1 by omega), decide_eq_true (show (A : Int) - B = -1 by omega)]
        simp only [cond_true, cond_false]
        congr 1
        rw [Bool.eq_iff_iff, hS]
        constructor
        · intro h; exact .inr ⟨k2, h⟩
        · rintro (⟨h, _⟩ | ⟨_, h⟩)
          · omega
          · exact h
      · rw [decide_eq_false (show ¬ (A : Int) - B = 0 by omega), decide_eq_false (show ¬ (A : Int) - B = 1 by omega), decide_eq_false (show ¬ (A : Int) - B = -1 by omega)]
        simp only [cond_false]
        congr 1
        rw [Bool.eq_iff_iff, hS]
        simp only [Bool.false_eq_true, false_iff]
        rintro (⟨h, _⟩ | ⟨h, _⟩) <;> omega
  · rw [okB_false h]; rfl
end Go.Fx



set_option linter.unusedVariables false
set_option linter.unusedSimpArgs false
set_option maxRecDepth 100000
set_option maxHeartbeats 0
namespace Go.Fx
open Go Go.RowKit Go.Proofs
end Go.Fx



/- Chapter 10: distances, what is reached, and the ways. -/
set_option linter.unusedSimpArgs false
set_option linter.unusedVariables false
namespace Go.Fx
open Go Go.RowKit
def natI (l : List Nat) : List Int := l.map fun (x : Nat) => (x : Int)
theorem natI_append (a b : List Nat) : natI (a ++ b) = natI a ++ natI b := List.map_append
theorem natI_len (a : List Nat) : (natI a).length = a.length := List.length_map _
theorem nodup_len {n : Nat} : ∀ {q : List Nat}, q.Nodup → (∀ x ∈ q, x < n) → q.length ≤ n := by
  induction n with
  | zero => intro q _ h; cases q with
    | nil => exact Nat.le_refl _
    | cons x t => exact absurd (h x (by simp)) (Nat.not_lt_zero _)
  | succ n ih =>
    intro q hn h
    by_cases hm : n ∈ q
    · have h1 := ih (q := q.erase n) (hn.erase _) fun x hx => by
        have hx' := (List.Nodup.mem_erase_iff hn).1 hx
        have := h x hx'.2
        omega
      rw [List.length_erase_of_mem hm] at h1
      omega
    · have := ih hn fun x hx => by
        have h1 := h x hx
        have : x ≠ n := fun e => hm (e ▸ hx)
        omega
      omega
/-! the program's neighbours -/
theorem m38_eq (a : XAirspace) (L : LayOk a) (hn : a.configs.length ≤ 7) (c : Nat) (hc : c < a.configs.length) : m38_configs_next (lay a) c = some (natI ((List.range a.configs.length).filter (adjN a c))) := by
  have hl := L.len
  have h1 : m45_configs_next_1 (lay a) c = some (natI ((List.range a.configs.length).filter (adjN a c))) := by
    unfold m45_configs_next_1
    refine (up_listI (B := m45_configs_next_1_B0 (lay a) c) (fun i t => some (natI ((List.range' i t.length).filter (adjN a c)))) (lay a) (by omega) ?_ ?_ (by omega)).trans (by rw [hl, List.range_eq_range'])
    · intro sf; unfold m45_configs_next_1_B0
      simp only [Int.lt_irrefl, decide_false, cond_false]; rfl
    · intro sf i x t h1 h2 h3 ih
      have hi : i < a.configs.length := by omega
      unfold m45_configs_next_1_B0
      rw [List.length_cons, List.range'_succ, List.filter_cons]
      simp only [decide_eq_true (ipos h1), cond_true, h3, ih, Int.toNat_natCast]
      by_cases e : i = c
      · subst e
        rw [decide_eq_false (show ¬ ((i : Int) ≠ i) from fun h => h rfl), cond_false]
        have : adjN a i i = false := by unfold adjN; simp
        rw [this]; rfl
      · have e2 : adjN a c i = stepB ((lay a).getD c default) ((lay a).getD i default) := by unfold adjN; rw [decide_eq_true (Ne.symm e), Bool.true_and]
        rw [decide_eq_true (show (i : Int) ≠ c by omega), cond_true, ck_eq (by omega), ck_eq (by omega), m36_eq _ _ (L.map c hc) (L.map i hi), Option.bind_some, ← e2]
        cases adjN a c i <;> rfl
  unfold m38_configs_next
  rw [h1]; rfl
/-! distances -/
theorem m34_fold (adj : Nat → Nat → Bool) {n to c : Nat} (hn : n ≤ 7) (v : List Int) (hv : v.getD 0 default = (c : Int)) (K : List Int → List Int → Option (List Int)) : ∀ (k m : Nat) (d : List Int) (q : List Nat), m + k = n → BJ adj n to c m d q →
    rng2 (m34_configs_distances_B1 v) K (natI ((List.range' m k).filter (adj c))) (natI q) d = K (natI ((List.range' m k).foldl (bstep adj c) (d, q)).2) ((List.range' m k).foldl (bstep adj c) (d, q)).1 := by
  intro k
  induction k with
  | zero => intro m d q _ _; simp only [List.range'_zero, List.filter_nil, List.foldl_nil]; exact rng2_nil
  | succ k ih =>
    intro m d q e h
    have hq := nodup_len h.nd fun x hx => (h.qmem x hx).1
    have hs := h.step (show m < n by omega)
    rw [List.range'_succ, List.filter_cons, List.foldl_cons]
    have hd := h.len
    have hm : m < d.length := by omega
    have hc : c < d.length := by have := h.cn; omega
    have hb : bstep adj c (d, q) m = bif adj c m && decide (d.getD m default < 0) then (d.set m (d.getD c default + 1), q ++ [m]) else (d, q) := rfl
    rw [hb] at hs ⊢
    by_cases ha : adj c m = true
    · rw [if_pos ha]
      show rng2 _ K ((m : Int) :: natI _) _ _ = _
      rw [rng2_cons]
      generalize hR : rng2 (m34_configs_distances_B1 v) K (natI ((List.range' (m + 1) k).filter (adj c))) = R
      unfold m34_configs_distances_B1
      simp only [hv, Int.toNat_natCast]
      have k1 : (0 : Int) ≤ (m : Int) ∧ (m : Int) < (d.length : Int) := by omega
      have k2 : (0 : Int) ≤ (c : Int) ∧ (c : Int) < (d.length : Int) := by omega
      simp only [ck_eq k1, ck_eq k2]
      by_cases hu : d.getD m default < 0
      · rw [ha, Bool.true_and, decide_eq_true hu, cond_true] at hs ⊢
        have := h.bound c h.cn; have := vc_le n d; have := h.cv
        rw [decide_eq_false (show ¬ 0 ≤ d.getD m default by omega), cond_false, ck_eq (by rw [natI_len]; simp; omega), wrap_i64 (by omega) (by omega), ← hR]
        have := ih (m + 1) _ _ (by omega) hs
        rw [natI_append] at this
        exact this
      · rw [decide_eq_false hu, Bool.and_false, cond_false] at hs ⊢
        rw [decide_eq_true (show 0 ≤ d.getD m default by omega), cond_true, ← hR]
        exact ih (m + 1) _ _ (by omega) hs
    · have ha' : adj c m = false := by simpa using ha
      rw [if_neg ha]
      rw [ha', Bool.false_and, cond_false] at hs ⊢
      exact ih (m + 1) _ _ (by omega) hs
theorem m34_loop (a : XAirspace) (L : LayOk a) (hn : a.configs.length ≤ 7) {to : Nat} : ∀ (f : Nat) (d : List Int) (q : List Nat), BI (adjN a) a.configs.length to d q → 2 * (a.configs.length - vc a.configs.length d) + q.length < f →
    loop2 (m34_configs_distances_B0 (lay a)) f (natI q) d = some (bfs (adjN a) a.configs.length f d q) := by
  intro f
  induction f with
  | zero => intro d q _ h; omega
  | succ f ih =>
    intro d q h hf
    rw [loop2_succ]
    cases q with
    | nil => unfold m34_configs_distances_B0; rfl
    | cons c q =>
      generalize hR : loop2 (m34_configs_distances_B0 (lay a)) f = R at ih ⊢
      unfold m34_configs_distances_B0 bfs
      have hc := h.qmem c (by simp)
      have e0 : (natI (c :: q)).getD 0 default = (c : Int) := rfl
      have e1 : (natI (c :: q)).length = q.length + 1 := by rw [natI_len]; rfl
      rw [e1, decide_eq_true (show (0 : Int) < ((q.length + 1 : Nat) : Int) by omega), cond_true, ck_eq (by omega), ck_eq (by omega), e0, m38_eq a L hn c hc.1, Option.bind_some]
      simp only [jn_eq]
      have e2 : (natI (c :: q)).drop 1 = natI q := rfl
      rw [e2, List.range_eq_range', m34_fold (adjN a) hn (natI (c :: q)) e0 _ _ 0 d q (by omega) (BJ.start h)]
      have hm := fold_meas (adj := adjN a) (n := a.configs.length) c a.configs.length 0 d q h.len (by omega) fun i _ => hc.2
      have hr := h.round
      rw [List.range_eq_range'] at hr
      exact ih _ _ hr (by have := hm.1; simp only [List.length_cons] at hf; omega)
def distL (a : XAirspace) (to : Nat) : List Int := bfs (adjN a) a.configs.length 1000000 (start a.configs.length to) [to]
theorem dist_ok (a : XAirspace) (hn : a.configs.length ≤ 7) {to : Nat} (ht : to < a.configs.length) : Dist (adjN a) a.configs.length to (distL a to) := bfs_dist ht (by omega)
theorem rep10_1 : m42_slices_Repeatint_int_ [(-1)] ((1 : Nat) : Int) = some (List.replicate 1 (-1)) := by kernel_rfl
theorem rep10_2 : m42_slices_Repeatint_int_ [(-1)] ((2 : Nat) : Int) = some (List.replicate 2 (-1)) := by kernel_rfl
theorem rep10_3 : m42_slices_Repeatint_int_ [(-1)] ((3 : Nat) : Int) = some (List.replicate 3 (-1)) := by kernel_rfl
theorem rep10_4 : m42_slices_Repeatint_int_ [(-1)] ((4 : Nat) : Int) = some (List.replicate 4 (-1)) := by kernel_rfl
theorem rep10_5 : m42_slices_Repeatint_int_ [(-1)] ((5 : Nat) : Int) = some (List.replicate 5 (-1)) := by kernel_rfl
theorem rep10_6 : m42_slices_Repeatint_int_ [(-1)] ((6 : Nat) : Int) = some (List.replicate 6 (-1)) := by kernel_rfl
theorem rep10_7 : m42_slices_Repeatint_int_ [(-1)] ((7 : Nat) : Int) = some (List.replicate 7 (-1)) := by kernel_rfl
theorem rep10_eq (n : Nat) (h1 : 1 ≤ n) (h : n ≤ 7) : m42_slices_Repeatint_int_ [(-1)] (n : Int) = some (List.replicate n (-1)) := by
  have : n = 1 ∨ n = 2 ∨ n = 3 ∨ n = 4 ∨ n = 5 ∨ n = 6 ∨ n = 7 := by omega
  rcases this with rfl | rfl | rfl | rfl | rfl | rfl | rfl
  · exact rep10_1
  · exact rep10_2
  · exact rep10_3
  · exact rep10_4
  · exact rep10_5
  · exact rep10_6
  · exact rep10_7
theorem m34_eq (a : XAirspace) (L : LayOk a) (hn : a.configs.length ≤ 7) (to : Nat) (ht : to < a.configs.length) : m34_configs_distances (lay a) to = some (distL a to) := by
  unfold m34_configs_distances
  rw [L.len, rep10_eq _ L.nc1 hn, Option.bind_some, ck_eq (by simp; omega)]
  have hv := vc_le a.configs.length (start a.configs.length to)
  exact m34_loop a L hn 1000000 _ [to] (start_inv _ ht) (by simp only [List.length_cons, List.length_nil]; omega)
/-! the document's distances -/
def far (x : Int) : Int := if x < 0 then 33 else x
def farL (d : List Int) : List Int := d.map far
theorem far_get {d : List Int} {i : Nat} (h : i < d.length) : (farL d).getD i default = far (d.getD i default) := by unfold farL; simp [h]
theorem far_set {d : List Int} {i : Nat} {v : Int} (hv : 0 ≤ v) : farL (d.set i v) = (farL d).set i v := by
  unfold farL; rw [List.map_set]; congr 1; unfold far; rw [if_neg (by omega)]
theorem m35_fold (a : XAirspace) (hf : Few10 a) (hok : OKa a) {to c : Nat} (pre : List Int) (sf : List Int → List Int → Int → Option (List Int)) : ∀ (k m fuel : Nat) (d : List Int) (q : List Nat), m + k = a.configs.length → k < fuel → BJ (adjN a) a.configs.length to c m d q → pre.length ≤ 100 →
    loop3 (m35_overflightref10_distances_B2 a (pre.length : Int) sf) fuel (farL d) (pre ++ natI (c :: q)) (m : Int) =
      sf (farL ((List.range' m k).foldl (bstep (adjN a) c) (d, q)).1) (pre ++ natI (c :: ((List.range' m k).foldl (bstep (adjN a) c) (d, q)).2)) ((pre.length : Int) + 1) := by
  have hn := hf.nc
  intro k
  induction k with
  | zero =>
    intro m fuel d q e hfu h hp
    obtain ⟨g, rfl⟩ : ∃ g, fuel = g + 1 := ⟨fuel - 1, by omega⟩
    rw [loop3_succ]
    unfold m35_overflightref10_distances_B2
    rw [decide_eq_false (show ¬ (m : Int) < (a.configs.length : Int) by omega), cond_false, wrapS (by omega)]
    rfl
  | succ k ih =>
    intro m fuel d q e hfu h hp
    obtain ⟨g, rfl⟩ : ∃ g, fuel = g + 1 := ⟨fuel - 1, by omega⟩
    have hq := nodup_len h.nd fun x hx => (h.qmem x hx).1
    have hs := h.step (show m < a.configs.length by omega)
    rw [loop3_succ]
    have ih := fun d q => ih (m + 1) g d q (by omega) (by omega)
    generalize loop3 (m35_overflightref10_distances_B2 a (pre.length : Int) sf) g = R at ih ⊢
    rw [List.range'_succ, List.foldl_cons]
    have hd := h.len
    have hm : m < d.length := by omega
    have hc : c < d.length := by have := h.cn; omega
    have hfl : (farL d).length = d.length := by unfold farL; exact List.length_map _
    have hql : (pre ++ natI (c :: q)).length = pre.length + (q.length + 1) := by rw [List.length_append, natI_len]; rfl
    have hg : (pre ++ natI (c :: q)).getD pre.length default = (c : Int) := by rw [List.getD_eq_getElem?_getD, List.getElem?_append_right (Nat.le_refl _), Nat.sub_self]; rfl
    have hb := h.bound c h.cn; have hvl := vc_le a.configs.length d; have hcv := h.cv
    have hbm := h.bound m (by omega); have hge := h.ge m (by omega)
    unfold m35_overflightref10_distances_B2
    have k1 : (0 : Int) ≤ (m : Int) ∧ (m : Int) < ((farL d).length : Int) := by omega
    have k2 : (0 : Int) ≤ (c : Int) ∧ (c : Int) < ((farL d).length : Int) := by omega
    have k3 : (0 : Int) ≤ (pre.length : Int) ∧ (pre.length : Int) < ((pre ++ natI (c :: q)).length : Int) := by omega
    simp only [decide_eq_true (show (m : Int) < (a.configs.length : Int) by omega), cond_true, jn_eq, Int.toNat_natCast, hg, ck_eq k1, ck_eq k2, ck_eq k3, far_get hm, far_get hc, wrapS (show m + 1 < 9223372036854775808 by omega)]
    rw [m20_eq a hf, Option.bind_some]
    have hst : stepM a (m : Int) (c : Int) = adjN a c m := by
      unfold stepM
      rw [okB_true.2 hok, inR_true.2 ⟨by omega, by omega⟩, inR_true.2 ⟨by omega, by omega⟩, adjN_symm]; rfl
    rw [hst]
    have hfc : far (d.getD c default) = d.getD c default := by unfold far; rw [if_neg (by omega)]
    rw [hfc, wrap_i64 (by omega) (by omega)]
    have hbs : bstep (adjN a) c (d, q) m = bif adjN a c m && decide (d.getD m default < 0) then (d.set m (d.getD c default + 1), q ++ [m]) else (d, q) := rfl
    rw [hbs] at hs ⊢
    by_cases hu : d.getD m default < 0
    · have hfm : far (d.getD m default) = 33 := by unfold far; rw [if_pos hu]
      rw [hfm]
      cases ha : adjN a c m
      · rw [ha, Bool.false_and, cond_false] at hs
        simp only [decide_true, cond_true, cond_false, Bool.false_and]
        exact ih d q hs hp
      · rw [ha, Bool.true_and, decide_eq_true hu, cond_true] at hs
        simp only [decide_true, cond_true, cond_false, Bool.true_and, decide_eq_true hu]
        rw [ck_eq (by rw [hql]; simp; omega)]
        have := ih _ _ hs hp
        rw [far_set (by omega)] at this
        rw [← this]
        congr 1
        show (pre ++ natI (c :: q)) ++ [(m : Int)] = pre ++ natI (c :: (q ++ [m]))
        rw [List.append_assoc]
        congr 1
        show natI (c :: q) ++ natI [m] = natI ((c :: q) ++ [m])
        rw [natI_append]
    · have hfm : far (d.getD m default) = d.getD m default := by unfold far; rw [if_neg hu]
      rw [decide_eq_false hu, Bool.and_false, cond_false] at hs ⊢
      rw [hfm, decide_eq_false (show ¬ d.getD m default = 33 by omega), cond_false]
      exact ih d q hs hp
theorem m35_loop (a : XAirspace) (hf : Few10 a) (hok : OKa a) {to : Nat} : ∀ (f : Nat) (pre : List Int) (d : List Int) (q : List Nat), BI (adjN a) a.configs.length to d q → 2 * (a.configs.length - vc a.configs.length d) + q.length < f → pre.length + (2 * (a.configs.length - vc a.configs.length d) + q.length) ≤ 50 →
    loop3 (m35_overflightref10_distances_B1 a) f (farL d) (pre ++ natI q) (pre.length : Int) = some (farL (bfs (adjN a) a.configs.length f d q)) := by
  have hn := hf.nc
  intro f
  induction f with
  | zero => intro pre d q _ h; omega
  | succ f ih =>
    intro pre d q h hfu hp
    rw [loop3_succ]
    cases q with
    | nil =>
      unfold m35_overflightref10_distances_B1
      have : natI [] = [] := rfl
      rw [this, List.append_nil, decide_eq_false (Int.lt_irrefl _)]; rfl
    | cons c q =>
      generalize hR : loop3 (m35_overflightref10_distances_B1 a) f = R at ih ⊢
      unfold m35_overflightref10_distances_B1 bfs
      have hc := h.qmem c (by simp)
      have hql : (pre ++ natI (c :: q)).length = pre.length + (q.length + 1) := by rw [List.length_append, natI_len]; rfl
      simp only [List.length_cons] at hfu hp
      rw [decide_eq_true (show (pre.length : Int) < ((pre ++ natI (c :: q)).length : Int) by omega), cond_true]
      have := m35_fold a hf hok pre R a.configs.length 0 (((a.configs.length : Int) - 0).toNat + 1) d q (by omega) (by omega) (BJ.start h) (by omega)
      rw [show ((0 : Nat) : Int) = 0 from rfl] at this
      rw [this]
      have hm := fold_meas (adj := adjN a) (n := a.configs.length) c a.configs.length 0 d q h.len (by omega) fun i _ => hc.2
      have hr := h.round
      rw [List.range_eq_range'] at hr ⊢
      have hm1 := hm.1
      have := ih (pre ++ [(c : Int)]) _ _ hr (by omega) (by rw [List.length_append]; simp only [List.length_cons, List.length_nil]; omega)
      rw [List.append_assoc, List.length_append] at this
      simp only [List.length_cons, List.length_nil, Nat.zero_add] at this
      rw [show ((pre.length + 1 : Nat) : Int) = (pre.length : Int) + 1 by omega] at this
      exact this
theorem m35_eq (a : XAirspace) (hf : Few10 a) (hok : OKa a) (to : Nat) (ht : to < a.configs.length) : m35_overflightref10_distances a to = some (farL (distL a to)) := by
  have hn := hf.nc
  unfold m35_overflightref10_distances
  refine (up_listB (B := m35_overflightref10_distances_B0 a to) (σ := List Int) (fun i s => s = List.replicate i 33) (fun i t s => loop3 (m35_overflightref10_distances_B1 a) 1000000 ((s ++ List.replicate t.length 33).set to 0) [(to : Int)] 0) a.configs (by omega) ?_ ?_ (by omega) rfl).trans ?_
  · rintro sf s rfl
    unfold m35_overflightref10_distances_B0
    rw [decide_eq_false (Int.lt_irrefl _), cond_false, ck_eq (by simp; omega)]
    simp
  · rintro sf i s x t h1 h2 h3 rfl ih
    unfold m35_overflightref10_distances_B0
    rw [decide_eq_true (ipos h1), cond_true, ck_eq (by simp; omega), h3, ih _ (by rw [List.replicate_succ'])]
    rw [List.append_assoc]; rfl
  · have hv := vc_le a.configs.length (start a.configs.length to)
    have := m35_loop a hf hok 1000000 [] (start a.configs.length to) [to] (start_inv _ ht) (by simp only [List.length_cons, List.length_nil]; omega) (by simp only [List.length_cons, List.length_nil]; omega)
    have e : farL (start a.configs.length to) = ((List.replicate a.configs.length 33).set to 0) := by
      unfold start; rw [far_set (by decide)]; unfold farL; rw [List.map_replicate]; rfl
    rw [e] at this
    exact this
end Go.Fx



set_option linter.unusedVariables false
set_option linter.unusedSimpArgs false
set_option maxRecDepth 100000
set_option maxHeartbeats 0
namespace Go.Fx
open Go Go.RowKit Go.Proofs
end Go.Fx



/- Chapter 10: what is reached, ways, and what is stuck. -/
set_option linter.unusedSimpArgs false
set_option linter.unusedVariables false
namespace Go.Fx
open Go Go.RowKit
theorem inR_false1 {a : XAirspace} {n : Int} (h : n < 0) : inR a n = false := by unfold inR; rw [decide_eq_false (show ¬ 0 ≤ n by omega)]; rfl
theorem inR_false2 {a : XAirspace} {n : Int} (h : (a.configs.length : Int) ≤ n) : inR a n = false := by unfold inR; rw [decide_eq_false (show ¬ n < (a.configs.length : Int) by omega), Bool.and_false]
/-! ways -/
def nxt (a : XAirspace) (d : List Int) (c : Nat) : Nat := ((List.range a.configs.length).find? fun i => adjN a c i && decide (d.getD i default = d.getD c default - 1)).getD 0
def pathN (a : XAirspace) (d : List Int) : Nat → Nat → List Nat
  | 0, _ => []
  | k + 1, c => nxt a d c :: pathN a d k (nxt a d c)
section ways
variable {a : XAirspace} {to : Nat} {d : List Int} (D : Dist (adjN a) a.configs.length to d)
include D
theorem dist_zero {c : Nat} (hc : c < a.configs.length) : d.getD c default = 0 ↔ c = to := by
  constructor
  · intro h
    refine Classical.byContradiction fun hne => ?_
    obtain ⟨j, hj, _, h1, h2⟩ := D.pred c hc (by omega) hne
    omega
  · rintro rfl; exact D.to0
theorem nxt_spec {c : Nat} (hc : c < a.configs.length) (h0 : 0 < d.getD c default) : nxt a d c < a.configs.length ∧ adjN a c (nxt a d c) = true ∧ d.getD (nxt a d c) default = d.getD c default - 1 ∧ (List.range a.configs.length).find? (fun i => adjN a c i && decide (d.getD i default = d.getD c default - 1)) = some (nxt a d c) ∧ ∀ j < nxt a d c, (adjN a c j && decide (d.getD j default = d.getD c default - 1)) = false := by
  have hne : c ≠ to := fun e => by rw [e, D.to0] at h0; omega
  obtain ⟨j, hj, ha, h1, h2⟩ := D.pred c hc (by omega) hne
  cases e : (List.range a.configs.length).find? (fun i => adjN a c i && decide (d.getD i default = d.getD c default - 1)) with
  | none =>
    rw [List.find?_eq_none] at e
    have := e j (List.mem_range.2 hj)
    rw [adjN_symm, ha, Bool.true_and, decide_eq_true (show d.getD j default = d.getD c default - 1 by omega)] at this
    simp at this
  | some x =>
    have ex : nxt a d c = x := by unfold nxt; rw [e]; rfl
    have h3 := List.find?_range_eq_some.1 e
    have h4 : ∀ j < x, (!(adjN a c j && decide (d.getD j default = d.getD c default - 1))) = true := h3.2.2
    simp only [Bool.and_eq_true, decide_eq_true_eq] at h3
    rw [ex]
    exact ⟨List.mem_range.1 h3.2.1, h3.1.1, h3.1.2, rfl, fun j hj => by have := h4 j hj; rwa [Bool.not_eq_true'] at this⟩
end ways
theorem m22_inner {n : Nat} (d : List Int) (hd : d.length = n) (k K : Int → Option (List Int × Bool × Int)) (c : Nat) (hc : c < n) (h0 : 0 ≤ d.getD c default) (h1 : d.getD c default < 100) : ∀ (l : List Nat), (∀ x ∈ l, x < n) →
    rng1 (m22_configs_Path_B1 d k) K (natI l) c = match l.find? (fun i => decide (d.getD i default = d.getD c default - 1)) with
      | some i => k (i : Int)
      | none => K (c : Int) := by
  intro l
  induction l with
  | nil => intro _; exact rng1_nil
  | cons x t ih =>
    intro h
    have hx := h x (by simp)
    have ih := ih fun y hy => h y (by simp [hy])
    show rng1 _ K ((x : Int) :: natI t) _ = _
    rw [rng1_cons]
    generalize rng1 (m22_configs_Path_B1 d k) K (natI t) = R at ih ⊢
    unfold m22_configs_Path_B1
    rw [ck_eq (by omega), ck_eq (by omega), wrap_i64 (by simp only [Int.toNat_natCast]; omega) (by simp only [Int.toNat_natCast]; omega), List.find?_cons]
    simp only [Int.toNat_natCast]
    cases decide (d.getD x default = d.getD c default - 1)
    · exact ih
    · rfl
theorem m22_loop (a : XAirspace) (L : LayOk a) (hn : a.configs.length ≤ 7) {to : Nat} {d : List Int} (D : Dist (adjN a) a.configs.length to d) : ∀ (k fuel : Nat) (l : List Int) (c : Nat), k < fuel → c < a.configs.length → d.getD c default = (k : Int) → l.length + k ≤ 100 →
    loop2 (m22_configs_Path_B0 to (lay a, true) d) fuel l c = some (l ++ natI (pathN a d k c), true, 0) := by
  intro k
  induction k with
  | zero =>
    intro fuel l c hfu hc hk hl
    obtain ⟨g, rfl⟩ : ∃ g, fuel = g + 1 := ⟨fuel - 1, by omega⟩
    rw [loop2_succ]
    have e := (dist_zero D hc).1 hk
    unfold m22_configs_Path_B0
    rw [decide_eq_false (show ¬ (c : Int) ≠ (to : Int) by omega), cond_false]
    show _ = some (l ++ [], true, 0)
    rw [List.append_nil]
  | succ k ih =>
    intro fuel l c hfu hc hk hl
    obtain ⟨g, rfl⟩ : ∃ g, fuel = g + 1 := ⟨fuel - 1, by omega⟩
    rw [loop2_succ]
    have hne : c ≠ to := fun e => by have := (dist_zero D hc).2 e; omega
    have hb := D.bound c hc
    obtain ⟨s1, s2, s3, s4, _⟩ := nxt_spec D hc (by omega)
    have ih := ih g (l ++ [((nxt a d c : Nat) : Int)]) (nxt a d c) (by omega) s1 (by omega) (by simp; omega)
    generalize loop2 (m22_configs_Path_B0 to (lay a, true) d) g = R at ih ⊢
    unfold m22_configs_Path_B0
    rw [decide_eq_true (show (c : Int) ≠ (to : Int) by omega), cond_true]
    simp only [jn_eq]
    rw [m38_eq a L hn c hc, Option.bind_some, m22_inner d D.len _ _ c hc (by omega) (by omega) _ (fun x hx => List.mem_range.1 (List.mem_filter.1 hx).1), List.find?_filter]
    have e : (fun i => decide (adjN a c i = true ∧ decide (d.getD i default = d.getD c default - 1) = true)) = (fun i => adjN a c i && decide (d.getD i default = d.getD c default - 1)) := by
      funext i; rw [Bool.eq_iff_iff, decide_eq_true_iff, Bool.and_eq_true]
    rw [e, s4]
    show ck _ _ = _
    rw [ck_eq (by simp; omega), ih, List.append_assoc]
    rfl
noncomputable def pathM (a : XAirspace) (f t : Int) : List Int × Bool × Int :=
  bif okB a && (inR a f && inR a t) then (bif decide (0 ≤ (distL a t.toNat).getD f.toNat default) then (natI (f.toNat :: pathN a (distL a t.toNat) ((distL a t.toNat).getD f.toNat default).toNat f.toNat), true, 0) else ([], false, 0)) else ([], false, 100)
theorem m22_eq (a : XAirspace) (hf : Few10 a) (f t : Int) : m22_configs_Path a f t = some (pathM a f t) := by
  have hn := hf.nc
  unfold m22_configs_Path pathM
  by_cases h : OKa a
  · obtain ⟨L, _⟩ := lay_ok hf h
    rw [m31_ok hf h, okB_true.2 h]
    simp only [Option.bind_some, jn_eq, Bool.not_true, cond_false, L.len, Bool.true_and]
    by_cases f1 : f < 0
    · rw [decide_eq_true f1, inR_false1 f1]; rfl
    by_cases f2 : (a.configs.length : Int) ≤ f
    · rw [decide_eq_false f1, decide_eq_true f2, inR_false2 f2]; rfl
    by_cases t1 : t < 0
    · rw [decide_eq_false f1, decide_eq_false f2, decide_eq_true t1, inR_false1 t1, Bool.and_false]; rfl
    by_cases t2 : (a.configs.length : Int) ≤ t
    · rw [decide_eq_false f1, decide_eq_false f2, decide_eq_false t1, decide_eq_true t2, inR_false2 t2, Bool.and_false]; rfl
    rw [decide_eq_false f1, decide_eq_false f2, decide_eq_false t1, decide_eq_false t2, inR_true.2 ⟨by omega, by omega⟩, inR_true.2 ⟨by omega, by omega⟩]
    obtain ⟨i, rfl⟩ : ∃ i : Nat, f = i := ⟨f.toNat, by omega⟩
    obtain ⟨j, rfl⟩ : ∃ j : Nat, t = j := ⟨t.toNat, by omega⟩
    have hi : i < a.configs.length := by omega
    have hj : j < a.configs.length := by omega
    simp only [cond_false, cond_true, Bool.and_self]
    have D := dist_ok a hn hj
    have hb := D.bound i hi
    rw [m34_eq a L hn j hj, Option.bind_some, ck_eq (by have := D.len; omega)]
    rw [show ((i : Nat) : Int).toNat = i from rfl, show ((j : Nat) : Int).toNat = j from rfl]
    by_cases hd : (distL a j).getD i default < 0
    · rw [decide_eq_true hd, decide_eq_false (show ¬ 0 ≤ (distL a j).getD i default by omega)]; rfl
    · rw [decide_eq_false hd, decide_eq_true (show 0 ≤ (distL a j).getD i default by omega), cond_false, cond_true]
      rw [m22_loop a L hn D ((distL a j).getD i default).toNat 1000000 [(i : Int)] i (by omega) hi (by omega) (by rw [List.length_cons, List.length_nil]; omega)]
      rfl
  · rw [m31_bad hf h, okB_false h]; rfl
theorem m23_inner (a : XAirspace) (hf : Few10 a) (hok : OKa a) {to : Nat} {d : List Int} (D : Dist (adjN a) a.configs.length to d) (c : Nat) (hc : c < a.configs.length) (h0 : 0 < d.getD c default) (K : Int → Option (List Int × Bool × Int)) : ∀ (k m fuel : Nat), m + k = nxt a d c → k < fuel →
    loop1 (m23_overflightref10_Path_B1 a (farL d) c K) fuel m = K ((nxt a d c : Nat) : Int) := by
  have hn := hf.nc
  obtain ⟨s1, s2, s3, s4, s5⟩ := nxt_spec D hc h0
  have hfl : (farL d).length = a.configs.length := by unfold farL; rw [List.length_map]; exact D.len
  have hb := D.bound c hc
  have hfc : far (d.getD c default) = d.getD c default := by unfold far; rw [if_neg (by omega)]
  intro k
  induction k with
  | zero =>
    intro m fuel e hfu
    obtain ⟨g, rfl⟩ : ∃ g, fuel = g + 1 := ⟨fuel - 1, by omega⟩
    rw [loop1_succ]
    unfold m23_overflightref10_Path_B1
    have em : m = nxt a d c := by omega
    subst em
    have hfm : far (d.getD (nxt a d c) default) = d.getD c default - 1 := by unfold far; rw [if_neg (by omega)]; omega
    simp only [jn_eq]
    rw [ck_eq (by omega), ck_eq (by omega)]
    rw [show ((nxt a d c : Nat) : Int).toNat = nxt a d c from rfl, show ((c : Nat) : Int).toNat = c from rfl, far_get (by have := D.len; omega), far_get (by have := D.len; omega), hfc, hfm, wrap_i64 (by omega) (by omega), decide_eq_false (fun h => h rfl), cond_false, m20_eq a hf, Option.bind_some]
    have hst : stepM a (c : Int) ((nxt a d c : Nat) : Int) = true := by
      unfold stepM
      rw [okB_true.2 hok, inR_true.2 ⟨by omega, by omega⟩, inR_true.2 ⟨by omega, by omega⟩]; exact s2
    rw [hst]; rfl
  | succ k ih =>
    intro m fuel e hfu
    obtain ⟨g, rfl⟩ : ∃ g, fuel = g + 1 := ⟨fuel - 1, by omega⟩
    rw [loop1_succ]
    have ih := ih (m + 1) g (by omega) (by omega)
    generalize loop1 (m23_overflightref10_Path_B1 a (farL d) c K) g = R at ih ⊢
    have hm : m < a.configs.length := by omega
    have hs := s5 m (by omega)
    have hbm := D.bound m hm
    unfold m23_overflightref10_Path_B1
    simp only [jn_eq]
    rw [ck_eq (by omega), ck_eq (by omega)]
    rw [show ((m : Nat) : Int).toNat = m from rfl, show ((c : Nat) : Int).toNat = c from rfl, far_get (by have := D.len; omega), far_get (by have := D.len; omega), hfc, wrap_i64 (m := d.getD c default - 1) (by omega) (by omega), wrapS (by omega)]
    by_cases hx : far (d.getD m default) = d.getD c default - 1
    · rw [decide_eq_false (fun h => h hx), cond_false, m20_eq a hf, Option.bind_some]
      have hdm : d.getD m default = d.getD c default - 1 := by unfold far at hx; split at hx <;> omega
      rw [decide_eq_true hdm, Bool.and_true] at hs
      have hst : stepM a (c : Int) (m : Int) = false := by
        unfold stepM
        rw [okB_true.2 hok, inR_true.2 ⟨by omega, by omega⟩, inR_true.2 ⟨by omega, by omega⟩]; exact hs
      rw [hst]
      exact ih
    · rw [decide_eq_true hx, cond_true]
      exact ih
theorem m23_loop (a : XAirspace) (hf : Few10 a) (hok : OKa a) {to : Nat} {d : List Int} (D : Dist (adjN a) a.configs.length to d) : ∀ (k fuel : Nat) (l : List Int) (c : Nat), k < fuel → c < a.configs.length → d.getD c default = (k : Int) → l.length + k ≤ 100 →
    loop2 (m23_overflightref10_Path_B0 a to (farL d)) fuel l c = some (l ++ natI (pathN a d k c), true, 0) := by
  have hn := hf.nc
  intro k
  induction k with
  | zero =>
    intro fuel l c hfu hc hk hl
    obtain ⟨g, rfl⟩ : ∃ g, fuel = g + 1 := ⟨fuel - 1, by omega⟩
    rw [loop2_succ]
    have e := (dist_zero D hc).1 hk
    unfold m23_overflightref10_Path_B0
    rw [decide_eq_false (show ¬ (c : Int) ≠ (to : Int) by omega), cond_false]
    show _ = some (l ++ [], true, 0)
    rw [List.append_nil]
  | succ k ih =>
    intro fuel l c hfu hc hk hl
    obtain ⟨g, rfl⟩ : ∃ g, fuel = g + 1 := ⟨fuel - 1, by omega⟩
    rw [loop2_succ]
    have hne : c ≠ to := fun e => by have := (dist_zero D hc).2 e; omega
    obtain ⟨s1, s2, s3, s4, _⟩ := nxt_spec D hc (by omega)
    have ih := ih g (l ++ [((nxt a d c : Nat) : Int)]) (nxt a d c) (by omega) s1 (by omega) (by simp; omega)
    generalize loop2 (m23_overflightref10_Path_B0 a to (farL d)) g = R at ih ⊢
    unfold m23_overflightref10_Path_B0
    rw [decide_eq_true (show (c : Int) ≠ (to : Int) by omega), cond_true]
    simp only [jn_eq]
    have := m23_inner a hf hok D c hc (by omega) (fun next_1 => ck ((l.length + [next_1].length) * 8 ≤ 140737488355328) <| R (l ++ [next_1]) next_1) (nxt a d c) 0 1000000 (by omega) (by omega)
    rw [show ((0 : Nat) : Int) = 0 from rfl] at this
    rw [this, ck_eq (by simp; omega), ih, List.append_assoc]
    rfl
theorem m23_eq (a : XAirspace) (hf : Few10 a) (f t : Int) : m23_overflightref10_Path a f t = some (pathM a f t) := by
  have hn := hf.nc
  unfold m23_overflightref10_Path pathM
  simp only [jn_eq]
  rw [m16_eq a hf, Option.bind_some]
  by_cases h : OKa a
  · rw [okB_true.2 h]
    simp only [cond_true, ne_eq, not_true_eq_false, decide_false, cond_false, Bool.true_and]
    by_cases f1 : f < 0
    · rw [decide_eq_true f1, inR_false1 f1]; rfl
    by_cases f2 : (a.configs.length : Int) ≤ f
    · rw [decide_eq_false f1, decide_eq_true f2, inR_false2 f2]; rfl
    by_cases t1 : t < 0
    · rw [decide_eq_false f1, decide_eq_false f2, decide_eq_true t1, inR_false1 t1, Bool.and_false]; rfl
    by_cases t2 : (a.configs.length : Int) ≤ t
    · rw [decide_eq_false f1, decide_eq_false f2, decide_eq_false t1, decide_eq_true t2, inR_false2 t2, Bool.and_false]; rfl
    rw [decide_eq_false f1, decide_eq_false f2, decide_eq_false t1, decide_eq_false t2, inR_true.2 ⟨by omega, by omega⟩, inR_true.2 ⟨by omega, by omega⟩]
    obtain ⟨i, rfl⟩ : ∃ i : Nat, f = i := ⟨f.toNat, by omega⟩
    obtain ⟨j, rfl⟩ : ∃ j : Nat, t = j := ⟨t.toNat, by omega⟩
    have hi : i < a.configs.length := by omega
    have hj : j < a.configs.length := by omega
    simp only [cond_false, cond_true, Bool.and_self]
    have D := dist_ok a hn hj
    have hb := D.bound i hi
    have hfl : (farL (distL a j)).length = a.configs.length := by unfold farL; rw [List.length_map]; exact D.len
    rw [m35_eq a hf h j hj, Option.bind_some, ck_eq (by omega)]
    rw [show ((i : Nat) : Int).toNat = i from rfl, show ((j : Nat) : Int).toNat = j from rfl, far_get (by have := D.len; omega)]
    by_cases hd : (distL a j).getD i default < 0
    · have : far ((distL a j).getD i default) = 33 := by unfold far; rw [if_pos hd]
      rw [decide_eq_true this, decide_eq_false (show ¬ 0 ≤ (distL a j).getD i default by omega)]; rfl
    · have : ¬ far ((distL a j).getD i default) = 33 := by unfold far; rw [if_neg hd]; omega
      rw [decide_eq_false this, decide_eq_true (show 0 ≤ (distL a j).getD i default by omega), cond_false, cond_true]
      rw [m23_loop a hf h D ((distL a j).getD i default).toNat 1000000 [(i : Int)] i (by omega) hi (by omega) (by rw [List.length_cons, List.length_nil]; omega)]
      rfl
  · rw [okB_false h]; rfl
end Go.Fx



/- Chapter 10: what is stuck; who reaches whom. -/
set_option linter.unusedSimpArgs false
set_option linter.unusedVariables false
namespace Go.Fx
open Go Go.RowKit
theorem sane10 : m11_overflightlaw10_sane = some true := by kernel_rfl
theorem m21_eq (a b : List Int) (ha : a.length < 9223372036854775807) (hb : b.length < 9223372036854775807) : m21_overflightref10_SameInts a b = some (decide (a = b)) := by
  unfold m21_overflightref10_SameInts
  by_cases hl : a.length = b.length
  · rw [decide_eq_false (show ¬ ((a.length : Int) ≠ b.length) by omega), cond_false]
    refine (up_listI (B := m21_overflightref10_SameInts_B0 a b) (fun i t => some (decide (t = b.drop i))) a ha ?_ ?_ (by omega)).trans (by simp)
    · intro sf; unfold m21_overflightref10_SameInts_B0
      rw [decide_eq_false (Int.lt_irrefl _), cond_false, hl, List.drop_length]; rfl
    · intro sf i x t h1 h2 h3 ih
      obtain ⟨_, rfl⟩ := List.getElem?_eq_some_iff.1 h2
      unfold m21_overflightref10_SameInts_B0
      have g1 : a.getD (i : Int).toNat default = a[i] := by simp [h1]
      have hb' : i < b.length := by omega
      have g2 : b.getD (i : Int).toNat default = b[i] := by simp [hb']
      rw [decide_eq_true (ipos h1), cond_true, ck_eq (by omega), ck_eq (by omega), g1, g2, h3, ih, List.drop_eq_getElem_cons hb']
      by_cases e : a[i] = b[i]
      · rw [decide_eq_false (fun h => h e), cond_false, e]
        congr 1
        rw [Bool.eq_iff_iff, decide_eq_true_iff, decide_eq_true_iff]
        constructor
        · rintro rfl; rfl
        · intro h; exact (List.cons.inj h).2
      · rw [decide_eq_true e, cond_true, decide_eq_false]
        intro h; exact e (List.cons.inj h).1
  · rw [decide_eq_true (show (a.length : Int) ≠ b.length by omega), cond_true, decide_eq_false (fun e => hl (by rw [e]))]
theorem conn_symm {a : XAirspace} {i j : Nat} (h : Conn (adjN a) a.configs.length i j) : Conn (adjN a) a.configs.length j i := h.symm fun i _ j _ => adjN_symm a i j
/-! stuck -/
def lost (a : XAirspace) (f : Nat) : Option Nat := (List.range a.configs.length).find? fun i => decide ((distL a f).getD i default < 0)
noncomputable def stuckM (a : XAirspace) : Int × Int × Bool × Int := bif okB a then (match lost a 0 with
  | some i => (0, (i : Int), true, 0)
  | none => (0, 0, false, 0)) else (0, 0, false, 100)
theorem lost_some {a : XAirspace} {f x : Nat} (h : lost a f = some x) : x < a.configs.length ∧ (distL a f).getD x default < 0 ∧ ∀ j < x, 0 ≤ (distL a f).getD j default := by
  have h3 := List.find?_range_eq_some.1 h
  refine ⟨List.mem_range.1 h3.2.1, by simpa using h3.1, fun j hj => ?_⟩
  have : (!decide ((distL a f).getD j default < 0)) = true := h3.2.2 j hj
  rw [Bool.not_eq_true', decide_eq_false_iff_not] at this; omega
theorem lost_none {a : XAirspace} {f : Nat} (h : lost a f = none) : ∀ i < a.configs.length, 0 ≤ (distL a f).getD i default := by
  intro i hi
  have := List.find?_eq_none.1 h i (List.mem_range.2 hi)
  simp only [decide_eq_true_eq] at this; omega
theorem m24_eq (a : XAirspace) (hf : Few10 a) : m24_configs_Stuck a = some (stuckM a) := by
  have hn := hf.nc
  unfold m24_configs_Stuck stuckM
  by_cases h : OKa a
  · obtain ⟨L, _⟩ := lay_ok hf h
    have h0 : 0 < a.configs.length := L.nc1
    have D := dist_ok a hn h0
    rw [m31_ok hf h, okB_true.2 h, Option.bind_some, Bool.not_true, cond_false, cond_true]
    have := m34_eq a L hn 0 h0
    rw [show ((0 : Nat) : Int) = 0 from rfl] at this
    rw [this, Option.bind_some]
    obtain ⟨n, e1, e2, e3, e4⟩ := m39_eq (distL a 0) (-1) (by rw [D.len]; omega)
    rw [e1, Option.bind_some]
    cases hl : lost a 0 with
    | none =>
      have := lost_none hl
      have hneg : ¬ 0 ≤ n := fun h => by
        obtain ⟨h1, h2, _⟩ := e4 h
        have := this n.toNat (by rw [← D.len]; exact h2)
        omega
      rw [decide_eq_false hneg]; rfl
    | some x =>
      obtain ⟨h1, h2, h3⟩ := lost_some hl
      have hge := D.ge x h1
      have hmem : (-1 : Int) ∈ distL a 0 := by
        have hx : x < (distL a 0).length := by rw [D.len]; exact h1
        have : (distL a 0)[x] = -1 := by rw [show (distL a 0)[x] = (distL a 0).getD x default by simp [hx]]; omega
        rw [← this]; exact List.getElem_mem _
      have hnn := e2.2 hmem
      obtain ⟨g1, g2, g3⟩ := e4 hnn
      have : n = (x : Int) := by
        have a1 : ¬ n.toNat < x := fun hlt => by have := h3 _ hlt; omega
        have a2 : ¬ x < n.toNat := fun hlt => g3 x hlt (by omega)
        omega
      rw [decide_eq_true hnn, cond_true, this]
  · rw [m31_bad hf h, okB_false h]; rfl
theorem m25_inner (a : XAirspace) (hf : Few10 a) {f : Nat} (hfl : f < a.configs.length) (sf : Int → Option (Int × Int × Bool × Int)) (hw : IntKind.i64.wrap ((f : Int) + 1) = (f : Int) + 1) :
    loop1 (m25_overflightref10_Stuck_B1 a f sf (farL (distL a f))) (((a.configs.length : Int) - 0).toNat + 1) 0 = match lost a f with
      | some i => some ((f : Int), (i : Int), true, 0)
      | none => sf ((f : Int) + 1) := by
  have hn := hf.nc
  have D := dist_ok a hn hfl
  have hlen : (farL (distL a f)).length = a.configs.length := by unfold farL; rw [List.length_map]; exact D.len
  refine (up_listI (B := m25_overflightref10_Stuck_B1 a f sf (farL (distL a f))) (fun i l => match (List.range' i l.length).find? (fun i => decide ((distL a f).getD i default < 0)) with
      | some i => some ((f : Int), (i : Int), true, 0)
      | none => sf ((f : Int) + 1)) a.configs (by omega) ?_ ?_ (by omega)).trans (by unfold lost; rw [List.range_eq_range'])
  · intro sf2; unfold m25_overflightref10_Stuck_B1
    rw [decide_eq_false (Int.lt_irrefl _), cond_false, hw]; rfl
  · intro sf2 i x l h1 h2 h3 ih
    have hbm := D.bound i h1
    unfold m25_overflightref10_Stuck_B1
    rw [show (x :: l).length = l.length + 1 from rfl, List.range'_succ, List.find?_cons]
    rw [decide_eq_true (ipos h1), cond_true, ck_eq (by omega), h3, ih, show ((i : Nat) : Int).toNat = i from rfl, far_get (by rw [D.len]; exact h1)]
    by_cases e : (distL a f).getD i default < 0
    · have : far ((distL a f).getD i default) = 33 := by unfold far; rw [if_pos e]
      rw [decide_eq_true e, decide_eq_true this]; rfl
    · have : ¬ far ((distL a f).getD i default) = 33 := by unfold far; rw [if_neg e]; omega
      rw [decide_eq_false e, decide_eq_false this]; rfl
/-- nothing is lost from the first one: nothing is lost at all -/
theorem lost_all {a : XAirspace} (hn : a.configs.length ≤ 7) (h0 : 0 < a.configs.length) (h : lost a 0 = none) {f : Nat} (hf : f < a.configs.length) : lost a f = none := by
  have h1 := lost_none h
  cases e : lost a f with
  | none => rfl
  | some x =>
    obtain ⟨g1, g2, _⟩ := lost_some e
    have c1 := ((dist_ok a hn h0).conn hf).1 (h1 f hf)
    have c2 := ((dist_ok a hn h0).conn g1).1 (h1 x g1)
    have := ((dist_ok a hn hf).conn g1).2 ((conn_symm c1).trans c2)
    omega
theorem m25_eq (a : XAirspace) (hf : Few10 a) : m25_overflightref10_Stuck a = some (stuckM a) := by
  have hn := hf.nc
  unfold m25_overflightref10_Stuck stuckM
  rw [m16_eq a hf, Option.bind_some]
  by_cases h : OKa a
  · have h0 : 0 < a.configs.length := h.nc1
    rw [okB_true.2 h]
    simp only [cond_true, ne_eq, not_true_eq_false, decide_false, cond_false]
    cases hl : lost a 0 with
    | some x =>
      rw [loop1_succ]
      generalize loop1 (m25_overflightref10_Stuck_B0 a) ((a.configs.length : Int) - 0).toNat = R
      unfold m25_overflightref10_Stuck_B0
      have := m35_eq a hf h 0 h0
      rw [show ((0 : Nat) : Int) = 0 from rfl] at this
      rw [decide_eq_true (show (0 : Int) < (a.configs.length : Int) by omega), cond_true, this, Option.bind_some]
      have := m25_inner a hf h0 R (wrapS (by omega))
      rw [show ((0 : Nat) : Int) = 0 from rfl] at this
      rw [this, hl]
    | none =>
      refine up_list0 (B := m25_overflightref10_Stuck_B0 a) (fun _ => some (0, 0, false, 0)) a.configs (by omega) ?_ ?_ (by omega)
      · intro sf; unfold m25_overflightref10_Stuck_B0
        rw [decide_eq_false (Int.lt_irrefl _)]; rfl
      · intro sf i x l h1 h2 h3 ih
        unfold m25_overflightref10_Stuck_B0
        rw [decide_eq_true (ipos h1), cond_true, m35_eq a hf h i h1, Option.bind_some, m25_inner a hf h1 sf h3, lost_all hn h0 hl h1]
        exact ih
  · rw [okB_false h]; rfl
end Go.Fx



/- ConfigsPathSpec. -/
set_option linter.unusedSimpArgs false
set_option linter.unusedVariables false
namespace Go.Fx
open Go Go.RowKit
theorem pathN_len (a : XAirspace) (d : List Int) : ∀ (k c : Nat), (pathN a d k c).length = k := by
  intro k
  induction k with
  | zero => intro c; rfl
  | succ k ih => intro c; unfold pathN; rw [List.length_cons, ih]
theorem path_len (a : XAirspace) (hn : a.configs.length ≤ 7) (f t : Int) : (pathM a f t).1.length ≤ 8 := by
  unfold pathM
  cases h : okB a && (inR a f && inR a t)
  · exact Nat.zero_le _
  · rw [cond_true]
    simp only [Bool.and_eq_true] at h
    have h1 := inR_true.1 h.2.1
    have h2 := inR_true.1 h.2.2
    have D := dist_ok a hn (show t.toNat < a.configs.length by omega)
    have := D.bound f.toNat (by omega)
    cases decide (0 ≤ (distL a t.toNat).getD f.toNat default)
    · exact Nat.zero_le _
    · rw [cond_true]; rw [natI_len, List.length_cons, pathN_len]; omega
theorem ConfigsPathSpec_law (a : XAirspace) (f t : Int) (ha : smXAirspace a) (h1 : InK .i64 f) (h2 : InK .i64 t) : m5_overflightlaw10_ConfigsPathSpec a f t = some true := by
  unfold m5_overflightlaw10_ConfigsPathSpec
  rw [sane10, m12_eq a ha]
  simp only [Option.bind_some, Bool.not_true, cond_false]
  cases hf : fewB a
  · rfl
  have F := Few10.of hf
  have := path_len a F.nc f t
  rw [m22_eq a F, m23_eq a F, m24_eq a F, m25_eq a F]
  simp only [Option.bind_some, jn_eq]
  rw [m21_eq _ _ (by omega) (by omega)]
  simp
end Go.Fx



namespace Go.Proofs.Ytolafciahogceaa.lawConfigsPathSpec
open Go Go.Proofs Go.ChangeShapes Go.WideShapes Go.ChangeAt Go.RowKit Go.Fx
open Go.ChangeMaps (open_string shut_string)
set_option linter.unusedVariables false
set_option maxRecDepth 100000
theorem own : ownKnob Try.prog.godebug = none := by kernel_rfl
theorem laidOut : laidOutB Try.prog = true := by kernel_rfl
set_option maxRecDepth 100000 in
set_option maxHeartbeats 1000000 in
theorem lifted (os : Os) (started : os.Started) (H : Type) (enc : TypeId × Value → H) :
    ReturnsInHanded {} Try.checked os 5 .any (Rows.configsPathSpecSpec.pre6 enc Try.prog Try.f5 Rows.configsPathSpecRow.domain false) (Rows.configsPathSpecSpec.post enc Try.prog Try.f5 false true false false) := by
  refine returnsInHanded_of_change_sized (C := Try.checked) own started (by kernel_rfl) Try.func5
    (ChangeSpec.witness6 (enc := enc) (C := Try.checked) false ⟨#[], #[.agg #[(.slice none 0 0), (.slice none 0 0), (.slice none 0 0), (.slice none 0 0), (.slice none 0 0), (.slice none 0 0), (.slice none 0 0), (.slice none 0 0)], (.int .i64 0), (.int .i64 0)], []⟩ 8 (by kernel_rfl) (by kernel_rfl) (by kernel_rfl) (by kernel_rfl)) ?_
  intro W base args ds gs before hval0 hW hcnd hsz _
  have hval : ∀ (j : Nat) t v, Try.f5.params[j]? = some t → args[j]? = some v → Value.okWide Try.prog W .any base t v := hval0
  have hW' := hW
  obtain ⟨p, q, hA0, hV, rfl, hfz, hnd⟩ := hW
  have hA : DataW.TrodAll enc Try.prog W 0 (fun _ => true) true Try.f5.params.toList args.toList ds p := hA0
  rw [Try.params5] at hA hval
  obtain ⟨v0, vs0, d0, ds0, p0, q0, hargs, rfl, rfl, h0, r0⟩ := trodAll_cons hA
  obtain ⟨v1, vs1, d1, ds1, p1, q1, rfl, rfl, rfl, h1, r1⟩ := trodAll_cons r0
  obtain ⟨v2, vs2, d2, ds2, p2, q2, rfl, rfl, rfl, h2, r2⟩ := trodAll_cons r1
  obtain ⟨rfl, rfl, rfl⟩ := trodAll_nil r2
  obtain rfl : args = #[v0, v1, v2] := by cases args; simp_all
  obtain ⟨rfl, rfl⟩ := trodVars_none hV
  have k0 := h0
  have lt0 : ∀ x ∈ p0, x.block < W.heap.size := by obtain ⟨m, hm⟩ := k0; exact DataW.trod_lt m _ _ _ hm
  obtain ⟨fu0, hf0⟩ := h0
  obtain ⟨a, rr0, sm0⟩ := rd31.2 _ _ _ hf0
  replace sm0 := sm0 (fun n hn => by have := List.all_eq_true.1 hsz n (DataW.weights_mem_each (j := 0) (t := 31) rfl rfl n hn); simpa using this)
  obtain ⟨⟨cs0⟩, rfl, _⟩ := okWide_struct Try.underlying31 (hval 0 31 v0 rfl rfl)
  replace rr0 : rXAirspace.rd W [] cs0 a := rr0
  obtain ⟨_, _, rfl, ⟨a_a_volumes, c_a_volumes, rfl, f_a_volumes⟩, ⟨_, _, rfl, ⟨a_a_sectors, c_a_sectors, rfl, f_a_sectors⟩, ⟨_, _, rfl, ⟨a_a_configs, c_a_configs, rfl, f_a_configs⟩, ⟨_, _, rfl, ⟨a_a_segments, c_a_segments, rfl, f_a_segments⟩, ⟨_, _, rfl, ⟨a_a_routes, c_a_routes, rfl, f_a_routes⟩, ⟨_, _, rfl, ⟨a_a_airports, c_a_airports, rfl, f_a_airports⟩, ⟨_, _, rfl, ⟨a_a_classes, c_a_classes, rfl, f_a_classes⟩, ⟨a_a_rules, c_a_rules, rfl, f_a_rules⟩⟩⟩⟩⟩⟩⟩⟩ := rr0
  have k1 := h1
  have lt1 : ∀ x ∈ p1, x.block < W.heap.size := by obtain ⟨m, hm⟩ := k1; exact DataW.trod_lt m _ _ _ hm
  obtain ⟨fu1, hf1⟩ := h1
  obtain ⟨from_, rr1, sm1⟩ := rd3.2 _ _ _ hf1
  replace sm1 := sm1 (fun n hn => by have := List.all_eq_true.1 hsz n (DataW.weights_mem_each (j := 1) (t := 3) rfl rfl n hn); simpa using this)
  obtain ⟨n1, rfl⟩ := okWide_int Try.underlying3 (hval 1 3 v1 rfl rfl)
  replace rr1 : (rInt .i64).rd W [] [.int .i64 n1] from_ := rr1
  obtain ⟨e1, r_from_⟩ := un_int rr1
  obtain rfl : from_ = n1 := by simpa using e1.symm
  have k2 := h2
  have lt2 : ∀ x ∈ p2, x.block < W.heap.size := by obtain ⟨m, hm⟩ := k2; exact DataW.trod_lt m _ _ _ hm
  obtain ⟨fu2, hf2⟩ := h2
  obtain ⟨to, rr2, sm2⟩ := rd3.2 _ _ _ hf2
  replace sm2 := sm2 (fun n hn => by have := List.all_eq_true.1 hsz n (DataW.weights_mem_each (j := 2) (t := 3) rfl rfl n hn); simpa using this)
  obtain ⟨n2, rfl⟩ := okWide_int Try.underlying3 (hval 2 3 v2 rfl rfl)
  replace rr2 : (rInt .i64).rd W [] [.int .i64 n2] to := rr2
  obtain ⟨e2, r_to⟩ := un_int rr2
  obtain rfl : to = n2 := by simpa using e2.symm
  have hm : m5_overflightlaw10_ConfigsPathSpec a from_ to = some true := ConfigsPathSpec_law _ _ _ sm0 sm1 sm2
  have hc := Fn.calls (c5_overflightlaw10_ConfigsPathSpec (a := a) (from_ := from_) (to := to) (w := W) (O := []) (by simp) f_a_volumes f_a_sectors f_a_configs f_a_segments f_a_routes f_a_airports f_a_classes f_a_rules r_from_ r_to hm)
  clear hA0 hval0
  refine Calls.mono hc ?_
  rintro e W' ⟨v, rfl, bel, hv⟩
  replace bel := bel.below; obtain rfl : v = .bool true := hv
  exact ⟨_, rfl, _, _, _, [], _, [], hW', trodAll_mk1 (shut_bool Try.underlying4 _), (trodAll_cons_mk (Below.trod laidOut (by kernel_rfl) (of_decide_eq_true (by kernel_rfl)) k0 bel lt0) (trodAll_cons_mk (Below.trod laidOut (by kernel_rfl) (of_decide_eq_true (by kernel_rfl)) k1 bel lt1) (trodAll_cons_mk (Below.trod laidOut (by kernel_rfl) (of_decide_eq_true (by kernel_rfl)) k2 bel lt2) trodAll_mk0))), rfl, bel.frame _, fun h => by cases h⟩
theorem over : Rows.configsPathSpecRow.holds Try.pinned (OpenSpec.ofChange Rows.configsPathSpecSpec) :=
  OpenClaim.holds_of_wide 5 Try.f5 rfl rfl rfl rfl rfl rfl rfl ⟨rfl, rfl, rfl, rfl, rfl⟩ rfl rfl rfl rfl rfl (by kernel_rfl) Try.func5 (by kernel_rfl)
    (of_decide_eq_true (by kernel_rfl)) (by unfold Func.isWrapper; first | (rw [if_pos (by decide +kernel)]; kernel_rfl) | (rw [if_neg (by decide +kernel)]; exact ⟨rfl, rfl⟩))
    (fun os started H enc _ => lifted os started H enc)
theorem proved : Rows.ConfigsPathSpecSaid := over
end Go.Proofs.Ytolafciahogceaa.lawConfigsPathSpec


