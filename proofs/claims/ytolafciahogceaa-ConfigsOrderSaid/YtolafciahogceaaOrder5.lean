/- The order in which volumes and sectors are listed changes no step, nothing that is reached and no sector of a volume, for every airspace. -/
import Derived.Test.YtolafciahogceaaOrder4
import Derived.Laws.Bits64b
import Derived.Test.YtolafciahogceaaRows
import Derived.WalkKit
import Derived.ShutString
set_option linter.unusedVariables false
set_option linter.unusedSimpArgs false
set_option maxRecDepth 100000
set_option maxHeartbeats 0
namespace Go.Fx
open Go Go.RowKit Go.Proofs
def m10_overflightlaw10_ConfigsOrder_B1 (a : XAirspace) (from_ : Int) (to : Int) (volume : Int) (v_3 : List XSector) (sf166 : Int → (List XConfig) → Option Bool) (v_4 : Int) (v_5 : List XConfig) : Option Bool :=
 bif (decide (v_4 < (a.configs.length : Int))) then
  ck ((0 : Int) ≤ v_4 ∧ v_4 < (a.configs.length : Int)) <|
  ((fun x30 => m27_overflightlaw10_ConfigsOrder_1 x30) ((a.configs.getD v_4.toNat default).sectors)).bind fun r_2 =>
  ck ((v_5.length + [(⟨[], ([] : List (List UInt8)), r_2⟩ : XConfig)].length) * 64 ≤ 140737488355328) <|
  sf166 (IntKind.wrap .i64 (v_4 + 1)) (v_5 ++ [(⟨[], ([] : List (List UInt8)), r_2⟩ : XConfig)])
 else
  (m17_configs_Reach a from_).bind fun reach_1 =>
  (m17_configs_Reach (⟨a.volumes, v_3, v_5, ([] : List XSegment), ([] : List XRoute), ([] : List XAirport), ([] : List XClass), ([] : List XRule)⟩ : XAirspace) from_).bind fun reach_2 =>
  (m13_configs_Sector a to volume).bind fun sector_1 =>
  (m13_configs_Sector (⟨a.volumes, v_3, v_5, ([] : List XSegment), ([] : List XRoute), ([] : List XAirport), ([] : List XClass), ([] : List XRule)⟩ : XAirspace) to volume).bind fun sector_2 =>
  jn (fun (v_6 : Bool) =>
   some v_6)
  (fun k336 =>
   (m15_configs_Check (⟨a.volumes, v_3, v_5, ([] : List XSegment), ([] : List XRoute), ([] : List XAirport), ([] : List XClass), ([] : List XRule)⟩ : XAirspace)).bind fun check_1 =>
   bif (decide (check_1 = 0)) then
    (m19_configs_Step a from_ to).bind fun step_1 =>
    (m19_configs_Step (⟨a.volumes, v_3, v_5, ([] : List XSegment), ([] : List XRoute), ([] : List XAirport), ([] : List XClass), ([] : List XRule)⟩ : XAirspace) from_ to).bind fun step_2 =>
    bif (step_1 == step_2) then
     (m21_overflightref10_SameInts reach_1.1 reach_2.1).bind fun sameints_1 =>
     bif sameints_1 then
      bif (decide (reach_1.2 = reach_2.2)) then
       bif (decide (sector_1.1 = sector_2.1)) then
        k336 (sector_1.2 == sector_2.2)
       else
        k336 false
      else
       k336 false
     else
      k336 false
    else
     k336 false
   else
    k336 false)

def m10_overflightlaw10_ConfigsOrder_B0 (a : XAirspace) (from_ : Int) (to : Int) (volume : Int) (sf53 : Int → (List XSector) → Option Bool) (v_2 : Int) (v_3 : List XSector) : Option Bool :=
 bif (decide (v_2 < (a.sectors.length : Int))) then
  ck ((0 : Int) ≤ v_2 ∧ v_2 < (a.sectors.length : Int)) <|
  ((fun x30 => m27_overflightlaw10_ConfigsOrder_1 x30) ((a.sectors.getD v_2.toNat default).volumes)).bind fun r_1 =>
  ck ((v_3.length + [(⟨[], ([] : List (List UInt8)), r_1, 0, 0⟩ : XSector)].length) * 80 ≤ 140737488355328) <|
  sf53 (IntKind.wrap .i64 (v_2 + 1)) (v_3 ++ [(⟨[], ([] : List (List UInt8)), r_1, 0, 0⟩ : XSector)])
 else
  loop2 (m10_overflightlaw10_ConfigsOrder_B1 a from_ to volume v_3) (((a.configs.length : Int) - 0).toNat + 1) 0 ([] : List XConfig)

def m10_overflightlaw10_ConfigsOrder (a : XAirspace) (from_ : Int) (to : Int) (volume : Int) : Option Bool :=
 (m11_overflightlaw10_sane).bind fun sane_1 =>
 bif (!sane_1) then
  some false
 else
  jn (fun (v_1 : Bool) =>
   bif v_1 then
    some true
   else
    loop2 (m10_overflightlaw10_ConfigsOrder_B0 a from_ to volume) (((a.sectors.length : Int) - 0).toNat + 1) 0 ([] : List XSector))
  (fun k19 =>
   (m12_overflightref10_Few a).bind fun few_1 =>
   bif (!few_1) then
    k19 true
   else
    (m15_configs_Check a).bind fun check_2 =>
    k19 (decide (check_2 ≠ 0)))

theorem c10_overflightlaw10_ConfigsOrder {w : World} {O : List Nat} {a : XAirspace} {from_ : Int} {to : Int} {volume : Int} {a_a_volumes : Option Addr} {c_a_volumes : Nat} {a_a_sectors : Option Addr} {c_a_sectors : Nat} {a_a_configs : Option Addr} {c_a_configs : Nat} {a_a_segments : Option Addr} {c_a_segments : Nat} {a_a_routes : Option Addr} {c_a_routes : Nat} {a_a_airports : Option Addr} {c_a_airports : Nat} {a_a_classes : Option Addr} {c_a_classes : Nat} {a_a_rules : Option Addr} {c_a_rules : Nat} (hO : ∀ k ∈ O, k < w.heap.size) (f_a_volumes : SlR rXVolume w O a_a_volumes c_a_volumes a.volumes) (f_a_sectors : SlR rXSector w O a_a_sectors c_a_sectors a.sectors) (f_a_configs : SlR rXConfig w O a_a_configs c_a_configs a.configs) (f_a_segments : SlR rXSegment w O a_a_segments c_a_segments a.segments) (f_a_routes : SlR rXRoute w O a_a_routes c_a_routes a.routes) (f_a_airports : SlR rXAirport w O a_a_airports c_a_airports a.airports) (f_a_classes : SlR rXClass w O a_a_classes c_a_classes a.classes) (f_a_rules : SlR rXRule w O a_a_rules c_a_rules a.rules) (r_from_ : InK .i64 from_) (r_to : InK .i64 to) (r_volume : InK .i64 volume) {x : Bool} (hm : m10_overflightlaw10_ConfigsOrder a from_ to volume = some x) :
  Ok Try.prog 10 [(Value.agg [(Value.slice a_a_volumes a.volumes.length c_a_volumes), (Value.slice a_a_sectors a.sectors.length c_a_sectors), (Value.slice a_a_configs a.configs.length c_a_configs), (Value.slice a_a_segments a.segments.length c_a_segments), (Value.slice a_a_routes a.routes.length c_a_routes), (Value.slice a_a_airports a.airports.length c_a_airports), (Value.slice a_a_classes a.classes.length c_a_classes), (Value.slice a_a_rules a.rules.length c_a_rules)].toArray), (Value.int .i64 from_), (Value.int .i64 to), (Value.int .i64 volume)] w O vB x := by
 unfold m10_overflightlaw10_ConfigsOrder at hm
 refine Fn_of_Wp (n := 132) (xs := [.tmp 8]) Try.func10 rfl Try.ntmps10 Try.results10 rfl ?_
 have hs := St.start hO
 refine Wp_seq ?_
 refine Wp_region ?_
 refine Rg_op rfl (op_box (cs := [(Value.slice a_a_volumes a.volumes.length c_a_volumes), (Value.slice a_a_sectors a.sectors.length c_a_sectors), (Value.slice a_a_configs a.configs.length c_a_configs), (Value.slice a_a_segments a.segments.length c_a_segments), (Value.slice a_a_routes a.routes.length c_a_routes), (Value.slice a_a_airports a.airports.length c_a_airports), (Value.slice a_a_classes a.classes.length c_a_classes), (Value.slice a_a_rules a.rules.length c_a_rules)]) hs rfl rfl ?_)
 intro b1 w2 _ p3 hs4
 replace f_a_volumes := f_a_volumes.step p3; replace f_a_sectors := f_a_sectors.step p3; replace f_a_configs := f_a_configs.step p3; replace f_a_segments := f_a_segments.step p3; replace f_a_routes := f_a_routes.step p3; replace f_a_airports := f_a_airports.step p3; replace f_a_classes := f_a_classes.step p3; replace f_a_rules := f_a_rules.step p3; clear p3
 refine Rg_op rfl (op_assign (v := (Value.bool false)) rfl ?_)
 refine Rg_nil ?_
 refine Wp_seq ?_
 refine Wp_seq ?_
 refine Wp_region ?_
 replace hm := bd hm; obtain ⟨sane_1, hv6, hm⟩ := hm
 refine Rg_op rfl (op_call Try.call11 (c11_overflightlaw10_sane  hs4.ltw  hv6) rfl ?_)
 rintro v7 w8 ⟨hx9, h10⟩
 have hs11 := hs4.call hx9
 have p12 := Step.ext (O := ks [(some b1, Obj.cells [(Value.slice a_a_volumes a.volumes.length c_a_volumes), (Value.slice a_a_sectors a.sectors.length c_a_sectors), (Value.slice a_a_configs a.configs.length c_a_configs), (Value.slice a_a_segments a.segments.length c_a_segments), (Value.slice a_a_routes a.routes.length c_a_routes), (Value.slice a_a_airports a.airports.length c_a_airports), (Value.slice a_a_classes a.classes.length c_a_classes), (Value.slice a_a_rules a.rules.length c_a_rules)].toArray 31)] O) hx9
 clear hx9
 replace f_a_volumes := f_a_volumes.step p12; replace f_a_sectors := f_a_sectors.step p12; replace f_a_configs := f_a_configs.step p12; replace f_a_segments := f_a_segments.step p12; replace f_a_routes := f_a_routes.step p12; replace f_a_airports := f_a_airports.step p12; replace f_a_classes := f_a_classes.step p12; replace f_a_rules := f_a_rules.step p12; clear p12 hs4
 obtain rfl := h10
 refine Rg_op rfl (op_not rfl ?_)
 refine Rg_nil ?_
 refine Wp_cond rfl (fun hc14 => ?_) (fun hc14 => ?_)
 ·
  replace hm := bif_t hm hc14
  refine Wp_seq ?_
  obtain ⟨hs15, p16⟩ := hs11.sub (bs' := []) (.cons _ List.Sublist.slnil)
  clear f_a_volumes f_a_sectors f_a_configs f_a_segments f_a_routes f_a_airports f_a_classes f_a_rules
  clear p16 hs11
  refine Wp_region ?_
  refine Rg_op rfl (op_assign (v := (Value.bool false)) rfl ?_)
  refine Rg_nil ?_
  refine Wp_ret ?_
  have hz := step_all hs15
  refine ⟨_, (show Closes [] _ _ from rfl), [(Value.bool false)], ⟨rfl, trivial⟩, hs15.ext, ?_⟩
  exact Vr.eq (a := vB) (x := false) rfl (Option.some.inj hm)
 ·
  replace hm := bif_f hm hc14
  refine Wp_skip ?_
  refine Wp_seq ?_
  refine Wp_reset [] [(1, (Value.int .i64 from_)), (2, (Value.int .i64 to)), (3, (Value.int .i64 volume)), (4, (Value.pointer (some ⟨b1, 0, none⟩)))] rfl ⟨rfl, rfl, rfl, rfl, trivial⟩ fun ξ17 => ?_
  replace hm := jn_elim hm; obtain ⟨k19, hk20, hm⟩ := hm
  refine Wp_seqJ [25, 26, 27, 28, 29, 30, 31, 32] (fun fr w' => ∃ (v_1 : Bool) (Ebs : Ents), Ebs = [(some b1, Obj.cells [(Value.slice a_a_volumes a.volumes.length c_a_volumes), (Value.slice a_a_sectors a.sectors.length c_a_sectors), (Value.slice a_a_configs a.configs.length c_a_configs), (Value.slice a_a_segments a.segments.length c_a_segments), (Value.slice a_a_routes a.routes.length c_a_routes), (Value.slice a_a_airports a.airports.length c_a_airports), (Value.slice a_a_classes a.classes.length c_a_classes), (Value.slice a_a_rules a.rules.length c_a_rules)].toArray 31)] ∧ fr [] [(32, (Value.bool v_1))] ∧ Step (ks [(some b1, Obj.cells [(Value.slice a_a_volumes a.volumes.length c_a_volumes), (Value.slice a_a_sectors a.sectors.length c_a_sectors), (Value.slice a_a_configs a.configs.length c_a_configs), (Value.slice a_a_segments a.segments.length c_a_segments), (Value.slice a_a_routes a.routes.length c_a_routes), (Value.slice a_a_airports a.airports.length c_a_airports), (Value.slice a_a_classes a.classes.length c_a_classes), (Value.slice a_a_rules a.rules.length c_a_rules)].toArray 31)] O) w8 (ks Ebs O) w' ∧ St ⟨w, [], []⟩ O w' Ebs ∧ k19 v_1 = some x) ?_ ?_
  ·
   rintro ρ26 w22 ⟨v_1, Ebs, hEbs, hfr25, hst24, hs23, hm⟩
   replace hm := jnE1 hk20 hm
   subst hEbs; rw [hfr25.eq]; clear hfr25
   replace f_a_volumes := f_a_volumes.step hst24; replace f_a_sectors := f_a_sectors.step hst24; replace f_a_configs := f_a_configs.step hst24; replace f_a_segments := f_a_segments.step hst24; replace f_a_routes := f_a_routes.step hst24; replace f_a_airports := f_a_airports.step hst24; replace f_a_classes := f_a_classes.step hst24; replace f_a_rules := f_a_rules.step hst24; clear hst24 hs11
   refine Wp_cond rfl (fun hc27 => ?_) (fun hc27 => ?_)
   ·
    replace hm := bif_t hm hc27
    refine Wp_seq ?_
    obtain ⟨hs28, p29⟩ := hs23.sub (bs' := []) (.cons _ List.Sublist.slnil)
    clear f_a_volumes f_a_sectors f_a_configs f_a_segments f_a_routes f_a_airports f_a_classes f_a_rules
    clear p29 hs23
    refine Wp_region ?_
    refine Rg_op rfl (op_assign (v := (Value.bool true)) rfl ?_)
    refine Rg_nil ?_
    refine Wp_ret ?_
    have hz := step_all hs28
    refine ⟨_, (show Closes [] _ _ from rfl), [(Value.bool true)], ⟨rfl, trivial⟩, hs28.ext, ?_⟩
    exact Vr.eq (a := vB) (x := true) rfl (Option.some.inj hm)
   ·
    replace hm := bif_f hm hc27
    refine Wp_skip ?_
    refine Wp_seq ?_
    refine Wp_region ?_
    have F31 : CallsTo1 Try.prog w22 (ks [(some b1, Obj.cells [(Value.slice a_a_volumes a.volumes.length c_a_volumes), (Value.slice a_a_sectors a.sectors.length c_a_sectors), (Value.slice a_a_configs a.configs.length c_a_configs), (Value.slice a_a_segments a.segments.length c_a_segments), (Value.slice a_a_routes a.routes.length c_a_routes), (Value.slice a_a_airports a.airports.length c_a_airports), (Value.slice a_a_classes a.classes.length c_a_classes), (Value.slice a_a_rules a.rules.length c_a_rules)].toArray 31)] O) (Value.func (.func 27) #[] #[]) (vC (rSl (rInt .i64))) (vC (rSl (rInt .i64))) (fun x30 => m27_overflightlaw10_ConfigsOrder_1 x30) := by
     intro w32 O33 st34 hO35 v38 x30 y36 h39 hy37
     obtain ⟨a_y40, c_y40, rfl, f_y40⟩ := un_sl h39
     exact ⟨27, #[], #[], rfl, Try.call27, c27_overflightlaw10_ConfigsOrder_1 (l := x30) hO35 f_y40 hy37⟩
    refine Rg_op rfl (op_assign (v := (Value.func (.func 27) #[] #[])) rfl ?_)
    refine Rg_nil ?_
    refine Wp_seq ?_
    refine Wp_region ?_
    refine Rg_op rfl (op_fieldAddr ty31 rfl ty22 (by decide) rfl (rfl : _ = (⟨_, 0, none⟩ : Addr)) ?_)
    refine Rg_op rfl (op_load (cs := [(Value.slice a_a_volumes a.volumes.length c_a_volumes), (Value.slice a_a_sectors a.sectors.length c_a_sectors), (Value.slice a_a_configs a.configs.length c_a_configs), (Value.slice a_a_segments a.segments.length c_a_segments), (Value.slice a_a_routes a.routes.length c_a_routes), (Value.slice a_a_airports a.airports.length c_a_airports), (Value.slice a_a_classes a.classes.length c_a_classes), (Value.slice a_a_rules a.rules.length c_a_rules)]) (i := 0) ty22 hs23 rfl rfl rfl ?_)
    refine Rg_op rfl (op_build (vs := [(Value.slice a_a_volumes a.volumes.length c_a_volumes), (Value.slice none 0 0), (Value.slice none 0 0), (Value.slice none 0 0), (Value.slice none 0 0), (Value.slice none 0 0), (Value.slice none 0 0), (Value.slice none 0 0)]) (parts := [(0, .tmp 34)]) ty31 pl31 rfl ?_)
    refine Rg_op rfl (op_alloc ty31 hs23 ?_)
    intro b41 w42 _ p43 hs44
    replace f_a_volumes := f_a_volumes.step p43; replace f_a_sectors := f_a_sectors.step p43; replace f_a_configs := f_a_configs.step p43; replace f_a_segments := f_a_segments.step p43; replace f_a_routes := f_a_routes.step p43; replace f_a_airports := f_a_airports.step p43; replace f_a_classes := f_a_classes.step p43; replace f_a_rules := f_a_rules.step p43; replace F31 := F31.step p43; clear p43 hs23
    refine Rg_op_ (op_store (cs := [(Value.slice none 0 0), (Value.slice none 0 0), (Value.slice none 0 0), (Value.slice none 0 0), (Value.slice none 0 0), (Value.slice none 0 0), (Value.slice none 0 0), (Value.slice none 0 0)]) (vs := [(Value.slice a_a_volumes a.volumes.length c_a_volumes), (Value.slice none 0 0), (Value.slice none 0 0), (Value.slice none 0 0), (Value.slice none 0 0), (Value.slice none 0 0), (Value.slice none 0 0), (Value.slice none 0 0)]) (cs' := [(Value.slice a_a_volumes a.volumes.length c_a_volumes), (Value.slice none 0 0), (Value.slice none 0 0), (Value.slice none 0 0), (Value.slice none 0 0), (Value.slice none 0 0), (Value.slice none 0 0), (Value.slice none 0 0)]) (bs' := [(some b41, Obj.cells [(Value.slice a_a_volumes a.volumes.length c_a_volumes), (Value.slice none 0 0), (Value.slice none 0 0), (Value.slice none 0 0), (Value.slice none 0 0), (Value.slice none 0 0), (Value.slice none 0 0), (Value.slice none 0 0)].toArray 31), (some b1, Obj.cells [(Value.slice a_a_volumes a.volumes.length c_a_volumes), (Value.slice a_a_sectors a.sectors.length c_a_sectors), (Value.slice a_a_configs a.configs.length c_a_configs), (Value.slice a_a_segments a.segments.length c_a_segments), (Value.slice a_a_routes a.routes.length c_a_routes), (Value.slice a_a_airports a.airports.length c_a_airports), (Value.slice a_a_classes a.classes.length c_a_classes), (Value.slice a_a_rules a.rules.length c_a_rules)].toArray 31)]) (i := 0) ty31 hs44 rfl rfl rfl rfl rfl (le_lit rfl) rfl rfl rfl ?_)
    intro w46 p47 hs48
    replace f_a_volumes := f_a_volumes.step p47; replace f_a_sectors := f_a_sectors.step p47; replace f_a_configs := f_a_configs.step p47; replace f_a_segments := f_a_segments.step p47; replace f_a_routes := f_a_routes.step p47; replace f_a_airports := f_a_airports.step p47; replace f_a_classes := f_a_classes.step p47; replace f_a_rules := f_a_rules.step p47; replace F31 := F31.step p47; clear p47 hs44
    refine Rg_nil ?_
    refine Wp_seq ?_
    refine Wp_seq ?_
    refine Wp_region ?_
    refine Rg_op rfl (op_fieldAddr ty31 rfl ty23 (by decide) rfl (rfl : _ = (⟨_, 1, none⟩ : Addr)) ?_)
    refine Rg_op rfl (op_load (cs := [(Value.slice a_a_volumes a.volumes.length c_a_volumes), (Value.slice a_a_sectors a.sectors.length c_a_sectors), (Value.slice a_a_configs a.configs.length c_a_configs), (Value.slice a_a_segments a.segments.length c_a_segments), (Value.slice a_a_routes a.routes.length c_a_routes), (Value.slice a_a_airports a.airports.length c_a_airports), (Value.slice a_a_classes a.classes.length c_a_classes), (Value.slice a_a_rules a.rules.length c_a_rules)]) (i := 1) ty23 hs48 rfl rfl rfl ?_)
    refine Rg_op rfl (op_len Try.underlying23 rfl ?_)
    refine Rg_op rfl (op_move (v := (Value.int .i64 0)) rfl ?_)
    refine Rg_nil ?_
    refine Wp_block ?_
    refine Wp_reset [] [(1, (Value.int .i64 from_)), (2, (Value.int .i64 to)), (3, (Value.int .i64 volume)), (4, (Value.pointer (some ⟨b1, 0, none⟩))), (9, (Value.func (.func 27) #[] #[])), (10, (Value.pointer (some ⟨b41, 0, none⟩))), (37, (Value.slice a_a_sectors a.sectors.length c_a_sectors)), (38, (Value.int .i64 (a.sectors.length : Int))), (39, (Value.int .i64 0))] rfl ⟨rfl, rfl, rfl, rfl, rfl, rfl, rfl, rfl, rfl, trivial⟩ fun ξ52 => ?_
    have hs57 := hs48.ghost (Obj.cells #[] 50)
    refine Wp_loopM [12, 39, 40, 41, 42, 43, 44, 45, 46, 47, 48, 49, 50, 51, 52, 53] (fun m fr w' => ∃ (v_2 : Int) (v_3 : List XSector) (a_g51 : Option Addr) (c_g51 : Nat) (k_g51 : Option Nat) (o_g51 : Obj) (Ebs : Ents), Ebs = [(k_g51, o_g51), (some b41, Obj.cells [(Value.slice a_a_volumes a.volumes.length c_a_volumes), (Value.slice a_g51 v_3.length c_g51), (Value.slice none 0 0), (Value.slice none 0 0), (Value.slice none 0 0), (Value.slice none 0 0), (Value.slice none 0 0), (Value.slice none 0 0)].toArray 31), (some b1, Obj.cells [(Value.slice a_a_volumes a.volumes.length c_a_volumes), (Value.slice a_a_sectors a.sectors.length c_a_sectors), (Value.slice a_a_configs a.configs.length c_a_configs), (Value.slice a_a_segments a.segments.length c_a_segments), (Value.slice a_a_routes a.routes.length c_a_routes), (Value.slice a_a_airports a.airports.length c_a_airports), (Value.slice a_a_classes a.classes.length c_a_classes), (Value.slice a_a_rules a.rules.length c_a_rules)].toArray 31)] ∧ fr [] [(39, (Value.int .i64 v_2))] ∧ Step (ks [(none, (Obj.cells #[] 50)), (some b41, Obj.cells [(Value.slice a_a_volumes a.volumes.length c_a_volumes), (Value.slice none 0 0), (Value.slice none 0 0), (Value.slice none 0 0), (Value.slice none 0 0), (Value.slice none 0 0), (Value.slice none 0 0), (Value.slice none 0 0)].toArray 31), (some b1, Obj.cells [(Value.slice a_a_volumes a.volumes.length c_a_volumes), (Value.slice a_a_sectors a.sectors.length c_a_sectors), (Value.slice a_a_configs a.configs.length c_a_configs), (Value.slice a_a_segments a.segments.length c_a_segments), (Value.slice a_a_routes a.routes.length c_a_routes), (Value.slice a_a_airports a.airports.length c_a_airports), (Value.slice a_a_classes a.classes.length c_a_classes), (Value.slice a_a_rules a.rules.length c_a_rules)].toArray 31)] O) w46 (ks Ebs O) w' ∧ St ⟨w, [], []⟩ O w' Ebs ∧ InK .i64 v_2 ∧ Gs rXSector 50 w' (ks Ebs O) a_g51 c_g51 v_3 k_g51 o_g51 ∧ loop2 (m10_overflightlaw10_ConfigsOrder_B0 a from_ to volume) m v_2 v_3 = some x) (((a.sectors.length : Int) - 0).toNat + 1) ⟨0, ([] : List XSector), none, 0, none, (Obj.cells #[] 50), _, rfl, ⟨Out.refl _ _, rfl, rfl, trivial⟩, Step.refl _ _, hs57, (show InK .i64 0 from by decide), Gs.nil_, hm⟩ ?_ ?_
    · rintro _ _ ⟨_, _, _, _, _, _, _, _, _, _, _, _, _, hm⟩; exact loop2_z hm
    ·
     rintro m56 K55 hK55 ρ63 w59 ⟨v_2, v_3, a_g51, c_g51, k_g51, o_g51, Ebs, hEbs, hfr62, hst61, hs60, r_y49, f_g51, hm⟩
     obtain ⟨sf53, hsf54, hm⟩ := loop2_s hm; unfold m10_overflightlaw10_ConfigsOrder_B0 at hm
     subst hEbs; rw [hfr62.eq]; clear hfr62
     replace f_a_volumes := f_a_volumes.step hst61; replace f_a_sectors := f_a_sectors.step hst61; replace f_a_configs := f_a_configs.step hst61; replace f_a_segments := f_a_segments.step hst61; replace f_a_routes := f_a_routes.step hst61; replace f_a_airports := f_a_airports.step hst61; replace f_a_classes := f_a_classes.step hst61; replace f_a_rules := f_a_rules.step hst61; replace F31 := F31.step hst61
     have ch64 := hst61
     refine Wp_seq ?_
     refine Wp_region ?_
     refine Rg_op rfl (op_lss rfl rfl ?_)
     refine Rg_nil ?_
     refine Wp_seq ?_
     refine Wp_cond rfl (fun hc65 => ?_) (fun hc65 => ?_)
     ·
      replace hm := bif_t hm hc65
      refine Wp_skip ?_
      refine Wp_seq ?_
      refine Wp_block ?_
      refine Wp_seq ?_
      refine Wp_region ?_
      replace hm := ck_some hm; obtain ⟨hc66, hm⟩ := hm
      refine Rg_op rfl (op_indexAddr (q := rXSector) ty23 ty50 rfl rfl f_a_sectors rfl hc66.1 hc66.2 ?_)
      intro p67 f68
      refine Rg_op rfl (op_loadPA ty50 rfl f68 rfl ?_)
      intro vs69 h70
      obtain ⟨_, _, rfl, rfl, ⟨_, _, rfl, ⟨a_y71_names, c_y71_names, rfl, f_y71_names⟩, ⟨_, _, rfl, ⟨a_y71_volumes, c_y71_volumes, rfl, f_y71_volumes⟩, ⟨_, _, rfl, ⟨rfl, r_y71_radar⟩, ⟨rfl, r_y71_procedural⟩⟩⟩⟩⟩ := h70
      refine Rg_op rfl (op_alloc ty50 hs60 ?_)
      intro b72 w73 _ p74 hs75
      replace f_a_volumes := f_a_volumes.step p74; replace f_a_sectors := f_a_sectors.step p74; replace f_a_configs := f_a_configs.step p74; replace f_a_segments := f_a_segments.step p74; replace f_a_routes := f_a_routes.step p74; replace f_a_airports := f_a_airports.step p74; replace f_a_classes := f_a_classes.step p74; replace f_a_rules := f_a_rules.step p74; replace F31 := F31.step p74; replace f_g51 := f_g51.step p74; replace f68 := f68.step p74; replace f_y71_names := f_y71_names.step p74; replace f_y71_volumes := f_y71_volumes.step p74; replace ch64 := ch64.trans p74; clear p74 hs60
      refine Rg_op_ (op_store (cs := [(Value.string (bs [])), (Value.slice none 0 0), (Value.slice none 0 0), (Value.int .i64 0), (Value.int .i64 0)]) (vs := [(Value.string (bs ((a.sectors.getD v_2.toNat default).name))), (Value.slice a_y71_names ((a.sectors.getD v_2.toNat default).names).length c_y71_names), (Value.slice a_y71_volumes ((a.sectors.getD v_2.toNat default).volumes).length c_y71_volumes), (Value.int .i64 ((a.sectors.getD v_2.toNat default).radar)), (Value.int .i64 ((a.sectors.getD v_2.toNat default).procedural))]) (cs' := [(Value.string (bs ((a.sectors.getD v_2.toNat default).name))), (Value.slice a_y71_names ((a.sectors.getD v_2.toNat default).names).length c_y71_names), (Value.slice a_y71_volumes ((a.sectors.getD v_2.toNat default).volumes).length c_y71_volumes), (Value.int .i64 ((a.sectors.getD v_2.toNat default).radar)), (Value.int .i64 ((a.sectors.getD v_2.toNat default).procedural))]) (bs' := [(some b72, Obj.cells [(Value.string (bs ((a.sectors.getD v_2.toNat default).name))), (Value.slice a_y71_names ((a.sectors.getD v_2.toNat default).names).length c_y71_names), (Value.slice a_y71_volumes ((a.sectors.getD v_2.toNat default).volumes).length c_y71_volumes), (Value.int .i64 ((a.sectors.getD v_2.toNat default).radar)), (Value.int .i64 ((a.sectors.getD v_2.toNat default).procedural))].toArray 50), (k_g51, o_g51), (some b41, Obj.cells [(Value.slice a_a_volumes a.volumes.length c_a_volumes), (Value.slice a_g51 v_3.length c_g51), (Value.slice none 0 0), (Value.slice none 0 0), (Value.slice none 0 0), (Value.slice none 0 0), (Value.slice none 0 0), (Value.slice none 0 0)].toArray 31), (some b1, Obj.cells [(Value.slice a_a_volumes a.volumes.length c_a_volumes), (Value.slice a_a_sectors a.sectors.length c_a_sectors), (Value.slice a_a_configs a.configs.length c_a_configs), (Value.slice a_a_segments a.segments.length c_a_segments), (Value.slice a_a_routes a.routes.length c_a_routes), (Value.slice a_a_airports a.airports.length c_a_airports), (Value.slice a_a_classes a.classes.length c_a_classes), (Value.slice a_a_rules a.rules.length c_a_rules)].toArray 31)]) (i := 0) ty50 hs75 rfl rfl rfl rfl rfl (le_lit rfl) rfl rfl rfl ?_)
      intro w77 p78 hs79
      replace f_a_volumes := f_a_volumes.step p78; replace f_a_sectors := f_a_sectors.step p78; replace f_a_configs := f_a_configs.step p78; replace f_a_segments := f_a_segments.step p78; replace f_a_routes := f_a_routes.step p78; replace f_a_airports := f_a_airports.step p78; replace f_a_classes := f_a_classes.step p78; replace f_a_rules := f_a_rules.step p78; replace F31 := F31.step p78; replace f_g51 := f_g51.step p78; replace f68 := f68.step p78; replace f_y71_names := f_y71_names.step p78; replace f_y71_volumes := f_y71_volumes.step p78; replace ch64 := ch64.trans p78; clear p78 hs75
      refine Rg_nil ?_
      clear f68
      refine Wp_drawR (g0 := []) (m := 8) (fl := []) (TS_inv hs79) (.inl rfl) rfl (by decide +kernel) ?_  -- 10
      refine Dw_eq (Value.pointer (some ⟨b41, 1, none⟩)) (fun ρ80 w81 g hle hi ht => ?_) ?_
      ·
       obtain ⟨-, hst, -⟩ := hle
       refine StepOp_plain (op_fieldAddr ty31 rfl ty23 (by decide) (ht 10 rfl) (rfl : _ = (⟨_, 1, none⟩ : Addr)) ?_)
       exact Goes.same hi rfl
      refine Dw_eq (Value.slice a_g51 v_3.length c_g51) (fun ρ83 w84 g hle hi ht => ?_) ?_
      ·
       obtain ⟨-, hst, -⟩ := hle
       have hsn := (Step.nx hi).1
       refine StepOp_plain (op_load (cs := [(Value.slice a_a_volumes a.volumes.length c_a_volumes), (Value.slice a_g51 v_3.length c_g51), (Value.slice none 0 0), (Value.slice none 0 0), (Value.slice none 0 0), (Value.slice none 0 0), (Value.slice none 0 0), (Value.slice none 0 0)]) (i := 2) ty23 hsn (ht 43 rfl) rfl rfl ?_)
       exact Goes.same hi rfl
      refine Dw_eq (Value.func (.func 27) #[] #[]) (fun ρ86 w87 g hle hi ht => ?_) ?_
      ·
       obtain ⟨-, hst, -⟩ := hle
       refine StepOp_plain (op_move (v := (Value.func (.func 27) #[] #[])) (ht 9 rfl) ?_)
       exact Goes.same hi rfl
      refine Dw_eq (Value.pointer (some ⟨b72, 2, none⟩)) (fun ρ89 w90 g hle hi ht => ?_) ?_
      ·
       obtain ⟨-, hst, -⟩ := hle
       refine StepOp_plain (op_fieldAddr ty50 rfl ty39 (by decide) (ht 12 rfl) (rfl : _ = (⟨_, 2, none⟩ : Addr)) ?_)
       exact Goes.same hi rfl
      refine Dw_eq (Value.slice a_y71_volumes ((a.sectors.getD v_2.toNat default).volumes).length c_y71_volumes) (fun ρ92 w93 g hle hi ht => ?_) ?_
      ·
       obtain ⟨-, hst, -⟩ := hle
       have hsn := (Step.nx hi).1
       refine StepOp_plain (op_load (cs := [(Value.string (bs ((a.sectors.getD v_2.toNat default).name))), (Value.slice a_y71_names ((a.sectors.getD v_2.toNat default).names).length c_y71_names), (Value.slice a_y71_volumes ((a.sectors.getD v_2.toNat default).volumes).length c_y71_volumes), (Value.int .i64 ((a.sectors.getD v_2.toNat default).radar)), (Value.int .i64 ((a.sectors.getD v_2.toNat default).procedural))]) (i := 0) ty39 hsn (ht 46 rfl) rfl rfl ?_)
       exact Goes.same hi rfl
      replace hm := bd hm; obtain ⟨r_1, hv98, hm⟩ := hm
      refine Dw_op (VD O [(some b72, Obj.cells [(Value.string (bs ((a.sectors.getD v_2.toNat default).name))), (Value.slice a_y71_names ((a.sectors.getD v_2.toNat default).names).length c_y71_names), (Value.slice a_y71_volumes ((a.sectors.getD v_2.toNat default).volumes).length c_y71_volumes), (Value.int .i64 ((a.sectors.getD v_2.toNat default).radar)), (Value.int .i64 ((a.sectors.getD v_2.toNat default).procedural))].toArray 50), (k_g51, o_g51), (some b41, Obj.cells [(Value.slice a_a_volumes a.volumes.length c_a_volumes), (Value.slice a_g51 v_3.length c_g51), (Value.slice none 0 0), (Value.slice none 0 0), (Value.slice none 0 0), (Value.slice none 0 0), (Value.slice none 0 0), (Value.slice none 0 0)].toArray 31), (some b1, Obj.cells [(Value.slice a_a_volumes a.volumes.length c_a_volumes), (Value.slice a_a_sectors a.sectors.length c_a_sectors), (Value.slice a_a_configs a.configs.length c_a_configs), (Value.slice a_a_segments a.segments.length c_a_segments), (Value.slice a_a_routes a.routes.length c_a_routes), (Value.slice a_a_airports a.airports.length c_a_airports), (Value.slice a_a_classes a.classes.length c_a_classes), (Value.slice a_a_rules a.rules.length c_a_rules)].toArray 31)] (vC (rSl (rInt .i64))) r_1) (VD.stab _ _) (fun ρ95 w96 g hle hi ht => ?_) ?_
      ·
       obtain ⟨-, hst, -⟩ := hle
       replace F31 := F31.step hst; replace f_y71_volumes := f_y71_volumes.step hst
       refine StepOp_plain (op_callF (ht 45 rfl) (F31.call hi.ltw (mkC (mk_sl f_y71_volumes)) hv98) (by simp only [List.map, Array.toList, (show ev _ (.tmp 47) = _ from (ht 47 rfl))] <;> rfl) ?_)
       rintro v99 w100 ⟨hx101, h102⟩
       exact Goes.call hi hx101 h102
      refine Dw_op (VD O [(some b72, Obj.cells [(Value.string (bs ((a.sectors.getD v_2.toNat default).name))), (Value.slice a_y71_names ((a.sectors.getD v_2.toNat default).names).length c_y71_names), (Value.slice a_y71_volumes ((a.sectors.getD v_2.toNat default).volumes).length c_y71_volumes), (Value.int .i64 ((a.sectors.getD v_2.toNat default).radar)), (Value.int .i64 ((a.sectors.getD v_2.toNat default).procedural))].toArray 50), (k_g51, o_g51), (some b41, Obj.cells [(Value.slice a_a_volumes a.volumes.length c_a_volumes), (Value.slice a_g51 v_3.length c_g51), (Value.slice none 0 0), (Value.slice none 0 0), (Value.slice none 0 0), (Value.slice none 0 0), (Value.slice none 0 0), (Value.slice none 0 0)].toArray 31), (some b1, Obj.cells [(Value.slice a_a_volumes a.volumes.length c_a_volumes), (Value.slice a_a_sectors a.sectors.length c_a_sectors), (Value.slice a_a_configs a.configs.length c_a_configs), (Value.slice a_a_segments a.segments.length c_a_segments), (Value.slice a_a_routes a.routes.length c_a_routes), (Value.slice a_a_airports a.airports.length c_a_airports), (Value.slice a_a_classes a.classes.length c_a_classes), (Value.slice a_a_rules a.rules.length c_a_rules)].toArray 31)] (vA rXSector) (⟨[], ([] : List (List UInt8)), r_1, 0, 0⟩ : XSector)) (VD.stab _ _) (fun ρ104 w105 g hle hi ht => ?_) ?_
      ·
       obtain ⟨-, hst, -⟩ := hle
       have h107 : Vr.vd (vC (rSl (rInt .i64))) _ _ _ _ := ht 48 rfl
       obtain ⟨a_y109, c_y109, q108, f_y109⟩ := un_sl h107
       refine StepOp_plain (op_build (vs := [(Value.string (bs [])), (Value.slice none 0 0), (Value.slice a_y109 r_1.length c_y109), (Value.int .i64 0), (Value.int .i64 0)]) (parts := [(2, .tmp 48)]) ty50 pl50 (by simp only [List.map, (show ev _ (.tmp 48) = _ from q108)]; rfl) ?_)
       exact Goes.same hi (show Vr.vd (vA rXSector) _ _ _ _ from (mkA (mkVia (mk_pair mkStr (mk_pair (mk_sl SlR.nil_) (mk_pair (mk_sl f_y109) (mk_pair (mk_int (show InK .i64 0 from by decide)) (mk_int (show InK .i64 0 from by decide)))))))))
      refine Dw_op (VD O [(some b72, Obj.cells [(Value.string (bs ((a.sectors.getD v_2.toNat default).name))), (Value.slice a_y71_names ((a.sectors.getD v_2.toNat default).names).length c_y71_names), (Value.slice a_y71_volumes ((a.sectors.getD v_2.toNat default).volumes).length c_y71_volumes), (Value.int .i64 ((a.sectors.getD v_2.toNat default).radar)), (Value.int .i64 ((a.sectors.getD v_2.toNat default).procedural))].toArray 50), (k_g51, o_g51), (some b41, Obj.cells [(Value.slice a_a_volumes a.volumes.length c_a_volumes), (Value.slice a_g51 v_3.length c_g51), (Value.slice none 0 0), (Value.slice none 0 0), (Value.slice none 0 0), (Value.slice none 0 0), (Value.slice none 0 0), (Value.slice none 0 0)].toArray 31), (some b1, Obj.cells [(Value.slice a_a_volumes a.volumes.length c_a_volumes), (Value.slice a_a_sectors a.sectors.length c_a_sectors), (Value.slice a_a_configs a.configs.length c_a_configs), (Value.slice a_a_segments a.segments.length c_a_segments), (Value.slice a_a_routes a.routes.length c_a_routes), (Value.slice a_a_airports a.airports.length c_a_airports), (Value.slice a_a_classes a.classes.length c_a_classes), (Value.slice a_a_rules a.rules.length c_a_rules)].toArray 31)] (vC (rSl rXSector)) [(⟨[], ([] : List (List UInt8)), r_1, 0, 0⟩ : XSector)]) (VD.stab _ _) (fun ρ110 w111 g hle hi ht => ?_) ?_
      ·
       obtain ⟨-, hst, -⟩ := hle
       replace f_a_volumes := f_a_volumes.step hst; replace f_a_sectors := f_a_sectors.step hst; replace f_a_configs := f_a_configs.step hst; replace f_a_segments := f_a_segments.step hst; replace f_a_routes := f_a_routes.step hst; replace f_a_airports := f_a_airports.step hst; replace f_a_classes := f_a_classes.step hst; replace f_a_rules := f_a_rules.step hst; replace F31 := F31.step hst; replace f_g51 := f_g51.step hst; replace f_y71_names := f_y71_names.step hst; replace f_y71_volumes := f_y71_volumes.step hst
       have h113 : Vr.vd (vA rXSector) _ _ _ _ := ht 49 rfl
       obtain ⟨_, q114, ⟨_, _, rfl, rfl, ⟨_, _, rfl, ⟨a_y115_names, c_y115_names, rfl, f_y115_names⟩, ⟨_, _, rfl, ⟨a_y115_volumes, c_y115_volumes, rfl, f_y115_volumes⟩, ⟨_, _, rfl, ⟨rfl, r_y115_radar⟩, ⟨rfl, r_y115_procedural⟩⟩⟩⟩⟩⟩ := h113
       refine StepOp_plain (op_buildSlice (cs := [(Value.string (bs ((⟨[], ([] : List (List UInt8)), r_1, 0, 0⟩ : XSector).name))), (Value.slice a_y115_names ((⟨[], ([] : List (List UInt8)), r_1, 0, 0⟩ : XSector).names).length c_y115_names), (Value.slice a_y115_volumes ((⟨[], ([] : List (List UInt8)), r_1, 0, 0⟩ : XSector).volumes).length c_y115_volumes), (Value.int .i64 ((⟨[], ([] : List (List UInt8)), r_1, 0, 0⟩ : XSector).radar)), (Value.int .i64 ((⟨[], ([] : List (List UInt8)), r_1, 0, 0⟩ : XSector).procedural))]) (parts := [(0, .tmp 49)]) ty23 ty50 hi (by decide) (by simp only [List.map, (show ev _ (.tmp 49) = _ from q114)]; rfl) ?_)
       intro b116 w117 hx120 p118 hs119
       replace f_a_volumes := f_a_volumes.step p118; replace f_a_sectors := f_a_sectors.step p118; replace f_a_configs := f_a_configs.step p118; replace f_a_segments := f_a_segments.step p118; replace f_a_routes := f_a_routes.step p118; replace f_a_airports := f_a_airports.step p118; replace f_a_classes := f_a_classes.step p118; replace f_a_rules := f_a_rules.step p118; replace F31 := F31.step p118; replace f_g51 := f_g51.step p118; replace f_y71_names := f_y71_names.step p118; replace f_y71_volumes := f_y71_volumes.step p118; replace f_y115_names := f_y115_names.step p118; replace f_y115_volumes := f_y115_volumes.step p118
       obtain ⟨hs122, p123, f124⟩ := St.publish (i := 0) (o := 0) (c := 1) (xs := [(⟨[], ([] : List (List UInt8)), r_1, 0, 0⟩ : XSector)]) hs119 rfl (show Els rXSector _ _ [(Value.string (bs ((⟨[], ([] : List (List UInt8)), r_1, 0, 0⟩ : XSector).name))), (Value.slice a_y115_names ((⟨[], ([] : List (List UInt8)), r_1, 0, 0⟩ : XSector).names).length c_y115_names), (Value.slice a_y115_volumes ((⟨[], ([] : List (List UInt8)), r_1, 0, 0⟩ : XSector).volumes).length c_y115_volumes), (Value.int .i64 ((⟨[], ([] : List (List UInt8)), r_1, 0, 0⟩ : XSector).radar)), (Value.int .i64 ((⟨[], ([] : List (List UInt8)), r_1, 0, 0⟩ : XSector).procedural))] [(⟨[], ([] : List (List UInt8)), r_1, 0, 0⟩ : XSector)] from ⟨_, _, rfl, (mkVia (mk_pair mkStr (mk_pair (mk_sl f_y115_names) (mk_pair (mk_sl f_y115_volumes) (mk_pair (mk_int r_y115_radar) (mk_int r_y115_procedural)))))), Els.nil⟩) (le_lit rfl) (le_lit rfl) (le_lit rfl)
       exact Goes.pub hi hs122 (Step.trans p118 p123) hx120 (show Vr.vd (vC (rSl rXSector)) _ _ _ _ from mkC (mk_sl f124))
      refine Dw_nil fun w129 g130 hl131 hi132 => ?_
      obtain ⟨-, hst133, -⟩ := hl131
      obtain ⟨hs135, p134⟩ := Step.nx hi132
      rintro v136 h137
      replace h137 : Vr.vd (vC (rSl rXSector)) _ _ _ _ := h137
      obtain ⟨a_y138, c_y138, rfl, f_y138⟩ := un_sl h137
      rintro v139 h140
      replace h140 : Vr.vd (vA rXSector) _ _ _ _ := h140
      obtain ⟨_, rfl, ⟨_, _, rfl, rfl, ⟨_, _, rfl, ⟨a_y141_names, c_y141_names, rfl, f_y141_names⟩, ⟨_, _, rfl, ⟨a_y141_volumes, c_y141_volumes, rfl, f_y141_volumes⟩, ⟨_, _, rfl, ⟨rfl, r_y141_radar⟩, ⟨rfl, r_y141_procedural⟩⟩⟩⟩⟩⟩ := h140
      rintro v142 h143
      replace h143 : Vr.vd (vC (rSl (rInt .i64))) _ _ _ _ := h143
      obtain ⟨a_y144, c_y144, rfl, f_y144⟩ := un_sl h143
      rintro _ rfl
      rintro _ rfl
      rintro _ rfl
      rintro _ rfl
      rintro _ rfl
      have p145 : Step (ks [(some b72, Obj.cells [(Value.string (bs ((a.sectors.getD v_2.toNat default).name))), (Value.slice a_y71_names ((a.sectors.getD v_2.toNat default).names).length c_y71_names), (Value.slice a_y71_volumes ((a.sectors.getD v_2.toNat default).volumes).length c_y71_volumes), (Value.int .i64 ((a.sectors.getD v_2.toNat default).radar)), (Value.int .i64 ((a.sectors.getD v_2.toNat default).procedural))].toArray 50), (k_g51, o_g51), (some b41, Obj.cells [(Value.slice a_a_volumes a.volumes.length c_a_volumes), (Value.slice a_g51 v_3.length c_g51), (Value.slice none 0 0), (Value.slice none 0 0), (Value.slice none 0 0), (Value.slice none 0 0), (Value.slice none 0 0), (Value.slice none 0 0)].toArray 31), (some b1, Obj.cells [(Value.slice a_a_volumes a.volumes.length c_a_volumes), (Value.slice a_a_sectors a.sectors.length c_a_sectors), (Value.slice a_a_configs a.configs.length c_a_configs), (Value.slice a_a_segments a.segments.length c_a_segments), (Value.slice a_a_routes a.routes.length c_a_routes), (Value.slice a_a_airports a.airports.length c_a_airports), (Value.slice a_a_classes a.classes.length c_a_classes), (Value.slice a_a_rules a.rules.length c_a_rules)].toArray 31)] O) w77 (ks [(some b72, Obj.cells [(Value.string (bs ((a.sectors.getD v_2.toNat default).name))), (Value.slice a_y71_names ((a.sectors.getD v_2.toNat default).names).length c_y71_names), (Value.slice a_y71_volumes ((a.sectors.getD v_2.toNat default).volumes).length c_y71_volumes), (Value.int .i64 ((a.sectors.getD v_2.toNat default).radar)), (Value.int .i64 ((a.sectors.getD v_2.toNat default).procedural))].toArray 50), (k_g51, o_g51), (some b41, Obj.cells [(Value.slice a_a_volumes a.volumes.length c_a_volumes), (Value.slice a_g51 v_3.length c_g51), (Value.slice none 0 0), (Value.slice none 0 0), (Value.slice none 0 0), (Value.slice none 0 0), (Value.slice none 0 0), (Value.slice none 0 0)].toArray 31), (some b1, Obj.cells [(Value.slice a_a_volumes a.volumes.length c_a_volumes), (Value.slice a_a_sectors a.sectors.length c_a_sectors), (Value.slice a_a_configs a.configs.length c_a_configs), (Value.slice a_a_segments a.segments.length c_a_segments), (Value.slice a_a_routes a.routes.length c_a_routes), (Value.slice a_a_airports a.airports.length c_a_airports), (Value.slice a_a_classes a.classes.length c_a_classes), (Value.slice a_a_rules a.rules.length c_a_rules)].toArray 31)] O) w129 := hst133.trans p134
      replace f_y138 := f_y138.step p134; replace f_y141_names := f_y141_names.step p134; replace f_y141_volumes := f_y141_volumes.step p134; replace f_y144 := f_y144.step p134; replace f_a_volumes := f_a_volumes.step p145; replace f_a_sectors := f_a_sectors.step p145; replace f_a_configs := f_a_configs.step p145; replace f_a_segments := f_a_segments.step p145; replace f_a_routes := f_a_routes.step p145; replace f_a_airports := f_a_airports.step p145; replace f_a_classes := f_a_classes.step p145; replace f_a_rules := f_a_rules.step p145; replace F31 := F31.step p145; replace f_g51 := f_g51.step p145; replace f_y71_names := f_y71_names.step p145; replace f_y71_volumes := f_y71_volumes.step p145; replace ch64 := ch64.trans p145; clear p145 hs79
      replace hm := ck_some hm; obtain ⟨hc146, hm⟩ := hm
      obtain ⟨ns147, he148, hr149⟩ := f_y138.src
      refine Rg_op rfl (op_append (q := rXSector) (i := 1) (xs := v_3) (ys := [(⟨[], ([] : List (List UInt8)), r_1, 0, 0⟩ : XSector)]) (news := ns147) ty23 ty50 rfl (by decide) hs135 rfl rfl f_g51 rfl hr149 he148 hc146 (by have := hc146; simp only [maxLen]; omega) ?_)
      intro a153 c154 k155 o156 w150 p151 hs152 f157
      replace f_a_volumes := f_a_volumes.step p151; replace f_a_sectors := f_a_sectors.step p151; replace f_a_configs := f_a_configs.step p151; replace f_a_segments := f_a_segments.step p151; replace f_a_routes := f_a_routes.step p151; replace f_a_airports := f_a_airports.step p151; replace f_a_classes := f_a_classes.step p151; replace f_a_rules := f_a_rules.step p151; replace F31 := F31.step p151; replace f_y71_names := f_y71_names.step p151; replace f_y71_volumes := f_y71_volumes.step p151; replace f_y138 := f_y138.step p151; replace f_y141_names := f_y141_names.step p151; replace f_y141_volumes := f_y141_volumes.step p151; replace f_y144 := f_y144.step p151; replace ch64 := ch64.trans p151; clear p151 hs135
      refine Rg_op rfl (op_fieldAddr ty31 rfl ty23 (by decide) rfl (rfl : _ = (⟨_, 1, none⟩ : Addr)) ?_)
      refine Rg_op_ (op_store (cs := [(Value.slice a_a_volumes a.volumes.length c_a_volumes), (Value.slice a_g51 v_3.length c_g51), (Value.slice none 0 0), (Value.slice none 0 0), (Value.slice none 0 0), (Value.slice none 0 0), (Value.slice none 0 0), (Value.slice none 0 0)]) (vs := [(Value.slice a153 (v_3 ++ [(⟨[], ([] : List (List UInt8)), r_1, 0, 0⟩ : XSector)]).length c154)]) (cs' := [(Value.slice a_a_volumes a.volumes.length c_a_volumes), (Value.slice a153 (v_3 ++ [(⟨[], ([] : List (List UInt8)), r_1, 0, 0⟩ : XSector)]).length c154), (Value.slice none 0 0), (Value.slice none 0 0), (Value.slice none 0 0), (Value.slice none 0 0), (Value.slice none 0 0), (Value.slice none 0 0)]) (bs' := [(some b72, Obj.cells [(Value.string (bs ((a.sectors.getD v_2.toNat default).name))), (Value.slice a_y71_names ((a.sectors.getD v_2.toNat default).names).length c_y71_names), (Value.slice a_y71_volumes ((a.sectors.getD v_2.toNat default).volumes).length c_y71_volumes), (Value.int .i64 ((a.sectors.getD v_2.toNat default).radar)), (Value.int .i64 ((a.sectors.getD v_2.toNat default).procedural))].toArray 50), (k155, o156), (some b41, Obj.cells [(Value.slice a_a_volumes a.volumes.length c_a_volumes), (Value.slice a153 (v_3 ++ [(⟨[], ([] : List (List UInt8)), r_1, 0, 0⟩ : XSector)]).length c154), (Value.slice none 0 0), (Value.slice none 0 0), (Value.slice none 0 0), (Value.slice none 0 0), (Value.slice none 0 0), (Value.slice none 0 0)].toArray 31), (some b1, Obj.cells [(Value.slice a_a_volumes a.volumes.length c_a_volumes), (Value.slice a_a_sectors a.sectors.length c_a_sectors), (Value.slice a_a_configs a.configs.length c_a_configs), (Value.slice a_a_segments a.segments.length c_a_segments), (Value.slice a_a_routes a.routes.length c_a_routes), (Value.slice a_a_airports a.airports.length c_a_airports), (Value.slice a_a_classes a.classes.length c_a_classes), (Value.slice a_a_rules a.rules.length c_a_rules)].toArray 31)]) (i := 2) ty23 hs152 rfl rfl rfl rfl rfl (le_lit rfl) rfl rfl rfl ?_)
      intro w158 p159 hs160
      replace f_a_volumes := f_a_volumes.step p159; replace f_a_sectors := f_a_sectors.step p159; replace f_a_configs := f_a_configs.step p159; replace f_a_segments := f_a_segments.step p159; replace f_a_routes := f_a_routes.step p159; replace f_a_airports := f_a_airports.step p159; replace f_a_classes := f_a_classes.step p159; replace f_a_rules := f_a_rules.step p159; replace F31 := F31.step p159; replace f_y71_names := f_y71_names.step p159; replace f_y71_volumes := f_y71_volumes.step p159; replace f_y138 := f_y138.step p159; replace f_y141_names := f_y141_names.step p159; replace f_y141_volumes := f_y141_volumes.step p159; replace f_y144 := f_y144.step p159; replace f157 := f157.step p159; replace ch64 := ch64.trans p159; clear p159 hs152
      refine Rg_nil ?_
      clear f_y138 f_y141_names f_y141_volumes f_y144
      refine Wp_region ?_
      refine Rg_op rfl (op_addw rfl rfl ?_)
      refine Rg_op rfl (op_move (v := (Value.int .i64 (IntKind.wrap .i64 (v_2 + 1)))) rfl ?_)
      refine Rg_nil ?_
      have hs161 := hs160.drop 0
      replace f_a_volumes := f_a_volumes.step (hs160.dropS 0)
      replace f_a_sectors := f_a_sectors.step (hs160.dropS 0)
      replace f_a_configs := f_a_configs.step (hs160.dropS 0)
      replace f_a_segments := f_a_segments.step (hs160.dropS 0)
      replace f_a_routes := f_a_routes.step (hs160.dropS 0)
      replace f_a_airports := f_a_airports.step (hs160.dropS 0)
      replace f_a_classes := f_a_classes.step (hs160.dropS 0)
      replace f_a_rules := f_a_rules.step (hs160.dropS 0)
      replace F31 := F31.step (hs160.dropS 0)
      replace f_y71_names := f_y71_names.step (hs160.dropS 0)
      replace f_y71_volumes := f_y71_volumes.step (hs160.dropS 0)
      replace f157 := f157.step (hs160.dropS 0)
      replace ch64 := ch64.trans (hs160.dropS 0); clear hs160
      exact hK55 _ _ ⟨(IntKind.wrap .i64 (v_2 + 1)), (v_3 ++ [(⟨[], ([] : List (List UInt8)), r_1, 0, 0⟩ : XSector)]), a153, c154, k155, o156, _, rfl, ⟨(by repeat (first | with_reducible exact Out.refl _ _ | refine Out.upd ?_ rfl | refine Out.updL ?_ rfl | refine Out.mix' ?_ rfl | exact Out.refl _ _)), rfl, rfl, trivial⟩, ch64, hs161, (inK_wrap .i64 _), f157, jnE2 hsf54 hm⟩
     ·
      replace hm := bif_f hm hc65
      refine Wp_exit ?_
      refine Wp_seq ?_
      refine Wp_seq ?_
      refine Wp_region ?_
      refine Rg_op rfl (op_fieldAddr ty31 rfl ty24 (by decide) rfl (rfl : _ = (⟨_, 2, none⟩ : Addr)) ?_)
      refine Rg_op rfl (op_load (cs := [(Value.slice a_a_volumes a.volumes.length c_a_volumes), (Value.slice a_a_sectors a.sectors.length c_a_sectors), (Value.slice a_a_configs a.configs.length c_a_configs), (Value.slice a_a_segments a.segments.length c_a_segments), (Value.slice a_a_routes a.routes.length c_a_routes), (Value.slice a_a_airports a.airports.length c_a_airports), (Value.slice a_a_classes a.classes.length c_a_classes), (Value.slice a_a_rules a.rules.length c_a_rules)]) (i := 2) ty24 hs60 rfl rfl rfl ?_)
      refine Rg_op rfl (op_len Try.underlying24 rfl ?_)
      refine Rg_op rfl (op_move (v := (Value.int .i64 0)) rfl ?_)
      refine Rg_nil ?_
      refine Wp_block ?_
      refine Wp_reset [] [(1, (Value.int .i64 from_)), (2, (Value.int .i64 to)), (3, (Value.int .i64 volume)), (4, (Value.pointer (some ⟨b1, 0, none⟩))), (9, (Value.func (.func 27) #[] #[])), (10, (Value.pointer (some ⟨b41, 0, none⟩))), (55, (Value.slice a_a_configs a.configs.length c_a_configs)), (56, (Value.int .i64 (a.configs.length : Int))), (57, (Value.int .i64 0))] rfl ⟨rfl, rfl, rfl, rfl, rfl, rfl, rfl, rfl, rfl, trivial⟩ fun ξ165 => ?_
      have hs170 := hs60.ghost (Obj.cells #[] 52)
      refine Wp_loopM [14, 57, 58, 59, 60, 61, 62, 63, 64, 65, 66, 67, 68, 69, 70, 71] (fun m fr w' => ∃ (v_4 : Int) (v_5 : List XConfig) (a_g164 : Option Addr) (c_g164 : Nat) (k_g164 : Option Nat) (o_g164 : Obj) (Ebs : Ents), Ebs = [(k_g164, o_g164), (k_g51, o_g51), (some b41, Obj.cells [(Value.slice a_a_volumes a.volumes.length c_a_volumes), (Value.slice a_g51 v_3.length c_g51), (Value.slice a_g164 v_5.length c_g164), (Value.slice none 0 0), (Value.slice none 0 0), (Value.slice none 0 0), (Value.slice none 0 0), (Value.slice none 0 0)].toArray 31), (some b1, Obj.cells [(Value.slice a_a_volumes a.volumes.length c_a_volumes), (Value.slice a_a_sectors a.sectors.length c_a_sectors), (Value.slice a_a_configs a.configs.length c_a_configs), (Value.slice a_a_segments a.segments.length c_a_segments), (Value.slice a_a_routes a.routes.length c_a_routes), (Value.slice a_a_airports a.airports.length c_a_airports), (Value.slice a_a_classes a.classes.length c_a_classes), (Value.slice a_a_rules a.rules.length c_a_rules)].toArray 31)] ∧ fr [] [(57, (Value.int .i64 v_4))] ∧ Step (ks [(none, (Obj.cells #[] 52)), (k_g51, o_g51), (some b41, Obj.cells [(Value.slice a_a_volumes a.volumes.length c_a_volumes), (Value.slice a_g51 v_3.length c_g51), (Value.slice none 0 0), (Value.slice none 0 0), (Value.slice none 0 0), (Value.slice none 0 0), (Value.slice none 0 0), (Value.slice none 0 0)].toArray 31), (some b1, Obj.cells [(Value.slice a_a_volumes a.volumes.length c_a_volumes), (Value.slice a_a_sectors a.sectors.length c_a_sectors), (Value.slice a_a_configs a.configs.length c_a_configs), (Value.slice a_a_segments a.segments.length c_a_segments), (Value.slice a_a_routes a.routes.length c_a_routes), (Value.slice a_a_airports a.airports.length c_a_airports), (Value.slice a_a_classes a.classes.length c_a_classes), (Value.slice a_a_rules a.rules.length c_a_rules)].toArray 31)] O) w59 (ks Ebs O) w' ∧ St ⟨w, [], []⟩ O w' Ebs ∧ InK .i64 v_4 ∧ Gs rXConfig 52 w' (ks Ebs O) a_g164 c_g164 v_5 k_g164 o_g164 ∧ loop2 (m10_overflightlaw10_ConfigsOrder_B1 a from_ to volume v_3) m v_4 v_5 = some x) (((a.configs.length : Int) - 0).toNat + 1) ⟨0, ([] : List XConfig), none, 0, none, (Obj.cells #[] 52), _, rfl, ⟨Out.refl _ _, rfl, rfl, trivial⟩, Step.refl _ _, hs170, (show InK .i64 0 from by decide), Gs.nil_, hm⟩ ?_ ?_
      · rintro _ _ ⟨_, _, _, _, _, _, _, _, _, _, _, _, _, hm⟩; exact loop2_z hm
      ·
       rintro m169 K168 hK168 ρ176 w172 ⟨v_4, v_5, a_g164, c_g164, k_g164, o_g164, Ebs, hEbs, hfr175, hst174, hs173, r_y162, f_g164, hm⟩
       obtain ⟨sf166, hsf167, hm⟩ := loop2_s hm; unfold m10_overflightlaw10_ConfigsOrder_B1 at hm
       subst hEbs; rw [hfr175.eq]; clear hfr175
       replace f_a_volumes := f_a_volumes.step hst174; replace f_a_sectors := f_a_sectors.step hst174; replace f_a_configs := f_a_configs.step hst174; replace f_a_segments := f_a_segments.step hst174; replace f_a_routes := f_a_routes.step hst174; replace f_a_airports := f_a_airports.step hst174; replace f_a_classes := f_a_classes.step hst174; replace f_a_rules := f_a_rules.step hst174; replace F31 := F31.step hst174; replace f_g51 := f_g51.step hst174; replace ch64 := ch64.trans hst174
       have ch177 := hst174
       refine Wp_seq ?_
       refine Wp_region ?_
       refine Rg_op rfl (op_lss rfl rfl ?_)
       refine Rg_nil ?_
       refine Wp_seq ?_
       refine Wp_cond rfl (fun hc178 => ?_) (fun hc178 => ?_)
       ·
        replace hm := bif_t hm hc178
        refine Wp_skip ?_
        refine Wp_seq ?_
        refine Wp_block ?_
        refine Wp_seq ?_
        refine Wp_region ?_
        replace hm := ck_some hm; obtain ⟨hc179, hm⟩ := hm
        refine Rg_op rfl (op_indexAddr (q := rXConfig) ty24 ty52 rfl rfl f_a_configs rfl hc179.1 hc179.2 ?_)
        intro p180 f181
        refine Rg_op rfl (op_loadPA ty52 rfl f181 rfl ?_)
        intro vs182 h183
        obtain ⟨_, _, rfl, rfl, ⟨_, _, rfl, ⟨a_y184_names, c_y184_names, rfl, f_y184_names⟩, ⟨a_y184_sectors, c_y184_sectors, rfl, f_y184_sectors⟩⟩⟩ := h183
        refine Rg_op rfl (op_alloc ty52 hs173 ?_)
        intro b185 w186 _ p187 hs188
        replace f_a_volumes := f_a_volumes.step p187; replace f_a_sectors := f_a_sectors.step p187; replace f_a_configs := f_a_configs.step p187; replace f_a_segments := f_a_segments.step p187; replace f_a_routes := f_a_routes.step p187; replace f_a_airports := f_a_airports.step p187; replace f_a_classes := f_a_classes.step p187; replace f_a_rules := f_a_rules.step p187; replace F31 := F31.step p187; replace f_g51 := f_g51.step p187; replace f_g164 := f_g164.step p187; replace f181 := f181.step p187; replace f_y184_names := f_y184_names.step p187; replace f_y184_sectors := f_y184_sectors.step p187; replace ch64 := ch64.trans p187; replace ch177 := ch177.trans p187; clear p187 hs173
        refine Rg_op_ (op_store (cs := [(Value.string (bs [])), (Value.slice none 0 0), (Value.slice none 0 0)]) (vs := [(Value.string (bs ((a.configs.getD v_4.toNat default).name))), (Value.slice a_y184_names ((a.configs.getD v_4.toNat default).names).length c_y184_names), (Value.slice a_y184_sectors ((a.configs.getD v_4.toNat default).sectors).length c_y184_sectors)]) (cs' := [(Value.string (bs ((a.configs.getD v_4.toNat default).name))), (Value.slice a_y184_names ((a.configs.getD v_4.toNat default).names).length c_y184_names), (Value.slice a_y184_sectors ((a.configs.getD v_4.toNat default).sectors).length c_y184_sectors)]) (bs' := [(some b185, Obj.cells [(Value.string (bs ((a.configs.getD v_4.toNat default).name))), (Value.slice a_y184_names ((a.configs.getD v_4.toNat default).names).length c_y184_names), (Value.slice a_y184_sectors ((a.configs.getD v_4.toNat default).sectors).length c_y184_sectors)].toArray 52), (k_g164, o_g164), (k_g51, o_g51), (some b41, Obj.cells [(Value.slice a_a_volumes a.volumes.length c_a_volumes), (Value.slice a_g51 v_3.length c_g51), (Value.slice a_g164 v_5.length c_g164), (Value.slice none 0 0), (Value.slice none 0 0), (Value.slice none 0 0), (Value.slice none 0 0), (Value.slice none 0 0)].toArray 31), (some b1, Obj.cells [(Value.slice a_a_volumes a.volumes.length c_a_volumes), (Value.slice a_a_sectors a.sectors.length c_a_sectors), (Value.slice a_a_configs a.configs.length c_a_configs), (Value.slice a_a_segments a.segments.length c_a_segments), (Value.slice a_a_routes a.routes.length c_a_routes), (Value.slice a_a_airports a.airports.length c_a_airports), (Value.slice a_a_classes a.classes.length c_a_classes), (Value.slice a_a_rules a.rules.length c_a_rules)].toArray 31)]) (i := 0) ty52 hs188 rfl rfl rfl rfl rfl (le_lit rfl) rfl rfl rfl ?_)
        intro w190 p191 hs192
        replace f_a_volumes := f_a_volumes.step p191; replace f_a_sectors := f_a_sectors.step p191; replace f_a_configs := f_a_configs.step p191; replace f_a_segments := f_a_segments.step p191; replace f_a_routes := f_a_routes.step p191; replace f_a_airports := f_a_airports.step p191; replace f_a_classes := f_a_classes.step p191; replace f_a_rules := f_a_rules.step p191; replace F31 := F31.step p191; replace f_g51 := f_g51.step p191; replace f_g164 := f_g164.step p191; replace f181 := f181.step p191; replace f_y184_names := f_y184_names.step p191; replace f_y184_sectors := f_y184_sectors.step p191; replace ch64 := ch64.trans p191; replace ch177 := ch177.trans p191; clear p191 hs188
        refine Rg_nil ?_
        clear f181
        refine Wp_drawR (g0 := []) (m := 8) (fl := []) (TS_inv hs192) (.inl rfl) rfl (by decide +kernel) ?_  -- 15
        refine Dw_eq (Value.pointer (some ⟨b41, 2, none⟩)) (fun ρ193 w194 g hle hi ht => ?_) ?_
        ·
         obtain ⟨-, hst, -⟩ := hle
         refine StepOp_plain (op_fieldAddr ty31 rfl ty24 (by decide) (ht 10 rfl) (rfl : _ = (⟨_, 2, none⟩ : Addr)) ?_)
         exact Goes.same hi rfl
        refine Dw_eq (Value.slice a_g164 v_5.length c_g164) (fun ρ196 w197 g hle hi ht => ?_) ?_
        ·
         obtain ⟨-, hst, -⟩ := hle
         have hsn := (Step.nx hi).1
         refine StepOp_plain (op_load (cs := [(Value.slice a_a_volumes a.volumes.length c_a_volumes), (Value.slice a_g51 v_3.length c_g51), (Value.slice a_g164 v_5.length c_g164), (Value.slice none 0 0), (Value.slice none 0 0), (Value.slice none 0 0), (Value.slice none 0 0), (Value.slice none 0 0)]) (i := 3) ty24 hsn (ht 61 rfl) rfl rfl ?_)
         exact Goes.same hi rfl
        refine Dw_eq (Value.func (.func 27) #[] #[]) (fun ρ199 w200 g hle hi ht => ?_) ?_
        ·
         obtain ⟨-, hst, -⟩ := hle
         refine StepOp_plain (op_move (v := (Value.func (.func 27) #[] #[])) (ht 9 rfl) ?_)
         exact Goes.same hi rfl
        refine Dw_eq (Value.pointer (some ⟨b185, 2, none⟩)) (fun ρ202 w203 g hle hi ht => ?_) ?_
        ·
         obtain ⟨-, hst, -⟩ := hle
         refine StepOp_plain (op_fieldAddr ty52 rfl ty39 (by decide) (ht 14 rfl) (rfl : _ = (⟨_, 2, none⟩ : Addr)) ?_)
         exact Goes.same hi rfl
        refine Dw_eq (Value.slice a_y184_sectors ((a.configs.getD v_4.toNat default).sectors).length c_y184_sectors) (fun ρ205 w206 g hle hi ht => ?_) ?_
        ·
         obtain ⟨-, hst, -⟩ := hle
         have hsn := (Step.nx hi).1
         refine StepOp_plain (op_load (cs := [(Value.string (bs ((a.configs.getD v_4.toNat default).name))), (Value.slice a_y184_names ((a.configs.getD v_4.toNat default).names).length c_y184_names), (Value.slice a_y184_sectors ((a.configs.getD v_4.toNat default).sectors).length c_y184_sectors)]) (i := 0) ty39 hsn (ht 64 rfl) rfl rfl ?_)
         exact Goes.same hi rfl
        replace hm := bd hm; obtain ⟨r_2, hv211, hm⟩ := hm
        refine Dw_op (VD O [(some b185, Obj.cells [(Value.string (bs ((a.configs.getD v_4.toNat default).name))), (Value.slice a_y184_names ((a.configs.getD v_4.toNat default).names).length c_y184_names), (Value.slice a_y184_sectors ((a.configs.getD v_4.toNat default).sectors).length c_y184_sectors)].toArray 52), (k_g164, o_g164), (k_g51, o_g51), (some b41, Obj.cells [(Value.slice a_a_volumes a.volumes.length c_a_volumes), (Value.slice a_g51 v_3.length c_g51), (Value.slice a_g164 v_5.length c_g164), (Value.slice none 0 0), (Value.slice none 0 0), (Value.slice none 0 0), (Value.slice none 0 0), (Value.slice none 0 0)].toArray 31), (some b1, Obj.cells [(Value.slice a_a_volumes a.volumes.length c_a_volumes), (Value.slice a_a_sectors a.sectors.length c_a_sectors), (Value.slice a_a_configs a.configs.length c_a_configs), (Value.slice a_a_segments a.segments.length c_a_segments), (Value.slice a_a_routes a.routes.length c_a_routes), (Value.slice a_a_airports a.airports.length c_a_airports), (Value.slice a_a_classes a.classes.length c_a_classes), (Value.slice a_a_rules a.rules.length c_a_rules)].toArray 31)] (vC (rSl (rInt .i64))) r_2) (VD.stab _ _) (fun ρ208 w209 g hle hi ht => ?_) ?_
        ·
         obtain ⟨-, hst, -⟩ := hle
         replace F31 := F31.step hst; replace f_y184_sectors := f_y184_sectors.step hst
         refine StepOp_plain (op_callF (ht 63 rfl) (F31.call hi.ltw (mkC (mk_sl f_y184_sectors)) hv211) (by simp only [List.map, Array.toList, (show ev _ (.tmp 65) = _ from (ht 65 rfl))] <;> rfl) ?_)
         rintro v212 w213 ⟨hx214, h215⟩
         exact Goes.call hi hx214 h215
        refine Dw_op (VD O [(some b185, Obj.cells [(Value.string (bs ((a.configs.getD v_4.toNat default).name))), (Value.slice a_y184_names ((a.configs.getD v_4.toNat default).names).length c_y184_names), (Value.slice a_y184_sectors ((a.configs.getD v_4.toNat default).sectors).length c_y184_sectors)].toArray 52), (k_g164, o_g164), (k_g51, o_g51), (some b41, Obj.cells [(Value.slice a_a_volumes a.volumes.length c_a_volumes), (Value.slice a_g51 v_3.length c_g51), (Value.slice a_g164 v_5.length c_g164), (Value.slice none 0 0), (Value.slice none 0 0), (Value.slice none 0 0), (Value.slice none 0 0), (Value.slice none 0 0)].toArray 31), (some b1, Obj.cells [(Value.slice a_a_volumes a.volumes.length c_a_volumes), (Value.slice a_a_sectors a.sectors.length c_a_sectors), (Value.slice a_a_configs a.configs.length c_a_configs), (Value.slice a_a_segments a.segments.length c_a_segments), (Value.slice a_a_routes a.routes.length c_a_routes), (Value.slice a_a_airports a.airports.length c_a_airports), (Value.slice a_a_classes a.classes.length c_a_classes), (Value.slice a_a_rules a.rules.length c_a_rules)].toArray 31)] (vA rXConfig) (⟨[], ([] : List (List UInt8)), r_2⟩ : XConfig)) (VD.stab _ _) (fun ρ217 w218 g hle hi ht => ?_) ?_
        ·
         obtain ⟨-, hst, -⟩ := hle
         have h220 : Vr.vd (vC (rSl (rInt .i64))) _ _ _ _ := ht 66 rfl
         obtain ⟨a_y222, c_y222, q221, f_y222⟩ := un_sl h220
         refine StepOp_plain (op_build (vs := [(Value.string (bs [])), (Value.slice none 0 0), (Value.slice a_y222 r_2.length c_y222)]) (parts := [(2, .tmp 66)]) ty52 pl52 (by simp only [List.map, (show ev _ (.tmp 66) = _ from q221)]; rfl) ?_)
         exact Goes.same hi (show Vr.vd (vA rXConfig) _ _ _ _ from (mkA (mkVia (mk_pair mkStr (mk_pair (mk_sl SlR.nil_) (mk_sl f_y222))))))
        refine Dw_op (VD O [(some b185, Obj.cells [(Value.string (bs ((a.configs.getD v_4.toNat default).name))), (Value.slice a_y184_names ((a.configs.getD v_4.toNat default).names).length c_y184_names), (Value.slice a_y184_sectors ((a.configs.getD v_4.toNat default).sectors).length c_y184_sectors)].toArray 52), (k_g164, o_g164), (k_g51, o_g51), (some b41, Obj.cells [(Value.slice a_a_volumes a.volumes.length c_a_volumes), (Value.slice a_g51 v_3.length c_g51), (Value.slice a_g164 v_5.length c_g164), (Value.slice none 0 0), (Value.slice none 0 0), (Value.slice none 0 0), (Value.slice none 0 0), (Value.slice none 0 0)].toArray 31), (some b1, Obj.cells [(Value.slice a_a_volumes a.volumes.length c_a_volumes), (Value.slice a_a_sectors a.sectors.length c_a_sectors), (Value.slice a_a_configs a.configs.length c_a_configs), (Value.slice a_a_segments a.segments.length c_a_segments), (Value.slice a_a_routes a.routes.length c_a_routes), (Value.slice a_a_airports a.airports.length c_a_airports), (Value.slice a_a_classes a.classes.length c_a_classes), (Value.slice a_a_rules a.rules.length c_a_rules)].toArray 31)] (vC (rSl rXConfig)) [(⟨[], ([] : List (List UInt8)), r_2⟩ : XConfig)]) (VD.stab _ _) (fun ρ223 w224 g hle hi ht => ?_) ?_
        ·
         obtain ⟨-, hst, -⟩ := hle
         replace f_a_volumes := f_a_volumes.step hst; replace f_a_sectors := f_a_sectors.step hst; replace f_a_configs := f_a_configs.step hst; replace f_a_segments := f_a_segments.step hst; replace f_a_routes := f_a_routes.step hst; replace f_a_airports := f_a_airports.step hst; replace f_a_classes := f_a_classes.step hst; replace f_a_rules := f_a_rules.step hst; replace F31 := F31.step hst; replace f_g51 := f_g51.step hst; replace f_g164 := f_g164.step hst; replace f_y184_names := f_y184_names.step hst; replace f_y184_sectors := f_y184_sectors.step hst
         have h226 : Vr.vd (vA rXConfig) _ _ _ _ := ht 67 rfl
         obtain ⟨_, q227, ⟨_, _, rfl, rfl, ⟨_, _, rfl, ⟨a_y228_names, c_y228_names, rfl, f_y228_names⟩, ⟨a_y228_sectors, c_y228_sectors, rfl, f_y228_sectors⟩⟩⟩⟩ := h226
         refine StepOp_plain (op_buildSlice (cs := [(Value.string (bs ((⟨[], ([] : List (List UInt8)), r_2⟩ : XConfig).name))), (Value.slice a_y228_names ((⟨[], ([] : List (List UInt8)), r_2⟩ : XConfig).names).length c_y228_names), (Value.slice a_y228_sectors ((⟨[], ([] : List (List UInt8)), r_2⟩ : XConfig).sectors).length c_y228_sectors)]) (parts := [(0, .tmp 67)]) ty24 ty52 hi (by decide) (by simp only [List.map, (show ev _ (.tmp 67) = _ from q227)]; rfl) ?_)
         intro b229 w230 hx233 p231 hs232
         replace f_a_volumes := f_a_volumes.step p231; replace f_a_sectors := f_a_sectors.step p231; replace f_a_configs := f_a_configs.step p231; replace f_a_segments := f_a_segments.step p231; replace f_a_routes := f_a_routes.step p231; replace f_a_airports := f_a_airports.step p231; replace f_a_classes := f_a_classes.step p231; replace f_a_rules := f_a_rules.step p231; replace F31 := F31.step p231; replace f_g51 := f_g51.step p231; replace f_g164 := f_g164.step p231; replace f_y184_names := f_y184_names.step p231; replace f_y184_sectors := f_y184_sectors.step p231; replace f_y228_names := f_y228_names.step p231; replace f_y228_sectors := f_y228_sectors.step p231
         obtain ⟨hs235, p236, f237⟩ := St.publish (i := 0) (o := 0) (c := 1) (xs := [(⟨[], ([] : List (List UInt8)), r_2⟩ : XConfig)]) hs232 rfl (show Els rXConfig _ _ [(Value.string (bs ((⟨[], ([] : List (List UInt8)), r_2⟩ : XConfig).name))), (Value.slice a_y228_names ((⟨[], ([] : List (List UInt8)), r_2⟩ : XConfig).names).length c_y228_names), (Value.slice a_y228_sectors ((⟨[], ([] : List (List UInt8)), r_2⟩ : XConfig).sectors).length c_y228_sectors)] [(⟨[], ([] : List (List UInt8)), r_2⟩ : XConfig)] from ⟨_, _, rfl, (mkVia (mk_pair mkStr (mk_pair (mk_sl f_y228_names) (mk_sl f_y228_sectors)))), Els.nil⟩) (le_lit rfl) (le_lit rfl) (le_lit rfl)
         exact Goes.pub hi hs235 (Step.trans p231 p236) hx233 (show Vr.vd (vC (rSl rXConfig)) _ _ _ _ from mkC (mk_sl f237))
        refine Dw_nil fun w242 g243 hl244 hi245 => ?_
        obtain ⟨-, hst246, -⟩ := hl244
        obtain ⟨hs248, p247⟩ := Step.nx hi245
        rintro v249 h250
        replace h250 : Vr.vd (vC (rSl rXConfig)) _ _ _ _ := h250
        obtain ⟨a_y251, c_y251, rfl, f_y251⟩ := un_sl h250
        rintro v252 h253
        replace h253 : Vr.vd (vA rXConfig) _ _ _ _ := h253
        obtain ⟨_, rfl, ⟨_, _, rfl, rfl, ⟨_, _, rfl, ⟨a_y254_names, c_y254_names, rfl, f_y254_names⟩, ⟨a_y254_sectors, c_y254_sectors, rfl, f_y254_sectors⟩⟩⟩⟩ := h253
        rintro v255 h256
        replace h256 : Vr.vd (vC (rSl (rInt .i64))) _ _ _ _ := h256
        obtain ⟨a_y257, c_y257, rfl, f_y257⟩ := un_sl h256
        rintro _ rfl
        rintro _ rfl
        rintro _ rfl
        rintro _ rfl
        rintro _ rfl
        have p258 : Step (ks [(some b185, Obj.cells [(Value.string (bs ((a.configs.getD v_4.toNat default).name))), (Value.slice a_y184_names ((a.configs.getD v_4.toNat default).names).length c_y184_names), (Value.slice a_y184_sectors ((a.configs.getD v_4.toNat default).sectors).length c_y184_sectors)].toArray 52), (k_g164, o_g164), (k_g51, o_g51), (some b41, Obj.cells [(Value.slice a_a_volumes a.volumes.length c_a_volumes), (Value.slice a_g51 v_3.length c_g51), (Value.slice a_g164 v_5.length c_g164), (Value.slice none 0 0), (Value.slice none 0 0), (Value.slice none 0 0), (Value.slice none 0 0), (Value.slice none 0 0)].toArray 31), (some b1, Obj.cells [(Value.slice a_a_volumes a.volumes.length c_a_volumes), (Value.slice a_a_sectors a.sectors.length c_a_sectors), (Value.slice a_a_configs a.configs.length c_a_configs), (Value.slice a_a_segments a.segments.length c_a_segments), (Value.slice a_a_routes a.routes.length c_a_routes), (Value.slice a_a_airports a.airports.length c_a_airports), (Value.slice a_a_classes a.classes.length c_a_classes), (Value.slice a_a_rules a.rules.length c_a_rules)].toArray 31)] O) w190 (ks [(some b185, Obj.cells [(Value.string (bs ((a.configs.getD v_4.toNat default).name))), (Value.slice a_y184_names ((a.configs.getD v_4.toNat default).names).length c_y184_names), (Value.slice a_y184_sectors ((a.configs.getD v_4.toNat default).sectors).length c_y184_sectors)].toArray 52), (k_g164, o_g164), (k_g51, o_g51), (some b41, Obj.cells [(Value.slice a_a_volumes a.volumes.length c_a_volumes), (Value.slice a_g51 v_3.length c_g51), (Value.slice a_g164 v_5.length c_g164), (Value.slice none 0 0), (Value.slice none 0 0), (Value.slice none 0 0), (Value.slice none 0 0), (Value.slice none 0 0)].toArray 31), (some b1, Obj.cells [(Value.slice a_a_volumes a.volumes.length c_a_volumes), (Value.slice a_a_sectors a.sectors.length c_a_sectors), (Value.slice a_a_configs a.configs.length c_a_configs), (Value.slice a_a_segments a.segments.length c_a_segments), (Value.slice a_a_routes a.routes.length c_a_routes), (Value.slice a_a_airports a.airports.length c_a_airports), (Value.slice a_a_classes a.classes.length c_a_classes), (Value.slice a_a_rules a.rules.length c_a_rules)].toArray 31)] O) w242 := hst246.trans p247
        replace f_y251 := f_y251.step p247; replace f_y254_names := f_y254_names.step p247; replace f_y254_sectors := f_y254_sectors.step p247; replace f_y257 := f_y257.step p247; replace f_a_volumes := f_a_volumes.step p258; replace f_a_sectors := f_a_sectors.step p258; replace f_a_configs := f_a_configs.step p258; replace f_a_segments := f_a_segments.step p258; replace f_a_routes := f_a_routes.step p258; replace f_a_airports := f_a_airports.step p258; replace f_a_classes := f_a_classes.step p258; replace f_a_rules := f_a_rules.step p258; replace F31 := F31.step p258; replace f_g51 := f_g51.step p258; replace f_g164 := f_g164.step p258; replace f_y184_names := f_y184_names.step p258; replace f_y184_sectors := f_y184_sectors.step p258; replace ch64 := ch64.trans p258; replace ch177 := ch177.trans p258; clear p258 hs192
        replace hm := ck_some hm; obtain ⟨hc259, hm⟩ := hm
        obtain ⟨ns260, he261, hr262⟩ := f_y251.src
        refine Rg_op rfl (op_append (q := rXConfig) (i := 1) (xs := v_5) (ys := [(⟨[], ([] : List (List UInt8)), r_2⟩ : XConfig)]) (news := ns260) ty24 ty52 rfl (by decide) hs248 rfl rfl f_g164 rfl hr262 he261 hc259 (by have := hc259; simp only [maxLen]; omega) ?_)
        intro a266 c267 k268 o269 w263 p264 hs265 f270
        replace f_a_volumes := f_a_volumes.step p264; replace f_a_sectors := f_a_sectors.step p264; replace f_a_configs := f_a_configs.step p264; replace f_a_segments := f_a_segments.step p264; replace f_a_routes := f_a_routes.step p264; replace f_a_airports := f_a_airports.step p264; replace f_a_classes := f_a_classes.step p264; replace f_a_rules := f_a_rules.step p264; replace F31 := F31.step p264; replace f_g51 := f_g51.step p264; replace f_y184_names := f_y184_names.step p264; replace f_y184_sectors := f_y184_sectors.step p264; replace f_y251 := f_y251.step p264; replace f_y254_names := f_y254_names.step p264; replace f_y254_sectors := f_y254_sectors.step p264; replace f_y257 := f_y257.step p264; replace ch64 := ch64.trans p264; replace ch177 := ch177.trans p264; clear p264 hs248
        refine Rg_op rfl (op_fieldAddr ty31 rfl ty24 (by decide) rfl (rfl : _ = (⟨_, 2, none⟩ : Addr)) ?_)
        refine Rg_op_ (op_store (cs := [(Value.slice a_a_volumes a.volumes.length c_a_volumes), (Value.slice a_g51 v_3.length c_g51), (Value.slice a_g164 v_5.length c_g164), (Value.slice none 0 0), (Value.slice none 0 0), (Value.slice none 0 0), (Value.slice none 0 0), (Value.slice none 0 0)]) (vs := [(Value.slice a266 (v_5 ++ [(⟨[], ([] : List (List UInt8)), r_2⟩ : XConfig)]).length c267)]) (cs' := [(Value.slice a_a_volumes a.volumes.length c_a_volumes), (Value.slice a_g51 v_3.length c_g51), (Value.slice a266 (v_5 ++ [(⟨[], ([] : List (List UInt8)), r_2⟩ : XConfig)]).length c267), (Value.slice none 0 0), (Value.slice none 0 0), (Value.slice none 0 0), (Value.slice none 0 0), (Value.slice none 0 0)]) (bs' := [(some b185, Obj.cells [(Value.string (bs ((a.configs.getD v_4.toNat default).name))), (Value.slice a_y184_names ((a.configs.getD v_4.toNat default).names).length c_y184_names), (Value.slice a_y184_sectors ((a.configs.getD v_4.toNat default).sectors).length c_y184_sectors)].toArray 52), (k268, o269), (k_g51, o_g51), (some b41, Obj.cells [(Value.slice a_a_volumes a.volumes.length c_a_volumes), (Value.slice a_g51 v_3.length c_g51), (Value.slice a266 (v_5 ++ [(⟨[], ([] : List (List UInt8)), r_2⟩ : XConfig)]).length c267), (Value.slice none 0 0), (Value.slice none 0 0), (Value.slice none 0 0), (Value.slice none 0 0), (Value.slice none 0 0)].toArray 31), (some b1, Obj.cells [(Value.slice a_a_volumes a.volumes.length c_a_volumes), (Value.slice a_a_sectors a.sectors.length c_a_sectors), (Value.slice a_a_configs a.configs.length c_a_configs), (Value.slice a_a_segments a.segments.length c_a_segments), (Value.slice a_a_routes a.routes.length c_a_routes), (Value.slice a_a_airports a.airports.length c_a_airports), (Value.slice a_a_classes a.classes.length c_a_classes), (Value.slice a_a_rules a.rules.length c_a_rules)].toArray 31)]) (i := 3) ty24 hs265 rfl rfl rfl rfl rfl (le_lit rfl) rfl rfl rfl ?_)
        intro w271 p272 hs273
        replace f_a_volumes := f_a_volumes.step p272; replace f_a_sectors := f_a_sectors.step p272; replace f_a_configs := f_a_configs.step p272; replace f_a_segments := f_a_segments.step p272; replace f_a_routes := f_a_routes.step p272; replace f_a_airports := f_a_airports.step p272; replace f_a_classes := f_a_classes.step p272; replace f_a_rules := f_a_rules.step p272; replace F31 := F31.step p272; replace f_g51 := f_g51.step p272; replace f_y184_names := f_y184_names.step p272; replace f_y184_sectors := f_y184_sectors.step p272; replace f_y251 := f_y251.step p272; replace f_y254_names := f_y254_names.step p272; replace f_y254_sectors := f_y254_sectors.step p272; replace f_y257 := f_y257.step p272; replace f270 := f270.step p272; replace ch64 := ch64.trans p272; replace ch177 := ch177.trans p272; clear p272 hs265
        refine Rg_nil ?_
        clear f_y251 f_y254_names f_y254_sectors f_y257
        refine Wp_region ?_
        refine Rg_op rfl (op_addw rfl rfl ?_)
        refine Rg_op rfl (op_move (v := (Value.int .i64 (IntKind.wrap .i64 (v_4 + 1)))) rfl ?_)
        refine Rg_nil ?_
        have hs274 := hs273.drop 0
        replace f_a_volumes := f_a_volumes.step (hs273.dropS 0)
        replace f_a_sectors := f_a_sectors.step (hs273.dropS 0)
        replace f_a_configs := f_a_configs.step (hs273.dropS 0)
        replace f_a_segments := f_a_segments.step (hs273.dropS 0)
        replace f_a_routes := f_a_routes.step (hs273.dropS 0)
        replace f_a_airports := f_a_airports.step (hs273.dropS 0)
        replace f_a_classes := f_a_classes.step (hs273.dropS 0)
        replace f_a_rules := f_a_rules.step (hs273.dropS 0)
        replace F31 := F31.step (hs273.dropS 0)
        replace f_g51 := f_g51.step (hs273.dropS 0)
        replace f_y184_names := f_y184_names.step (hs273.dropS 0)
        replace f_y184_sectors := f_y184_sectors.step (hs273.dropS 0)
        replace f270 := f270.step (hs273.dropS 0)
        replace ch64 := ch64.trans (hs273.dropS 0)
        replace ch177 := ch177.trans (hs273.dropS 0); clear hs273
        exact hK168 _ _ ⟨(IntKind.wrap .i64 (v_4 + 1)), (v_5 ++ [(⟨[], ([] : List (List UInt8)), r_2⟩ : XConfig)]), a266, c267, k268, o269, _, rfl, ⟨(by repeat (first | with_reducible exact Out.refl _ _ | refine Out.upd ?_ rfl | refine Out.updL ?_ rfl | refine Out.mix' ?_ rfl | exact Out.refl _ _)), rfl, rfl, trivial⟩, ch177, hs274, (inK_wrap .i64 _), f270, jnE2 hsf167 hm⟩
       ·
        replace hm := bif_f hm hc178
        refine Wp_exit ?_
        refine Wp_seq ?_
        clear F31
        refine Wp_region ?_
        refine Rg_op rfl (op_loadA (cs := [(Value.slice a_a_volumes a.volumes.length c_a_volumes), (Value.slice a_a_sectors a.sectors.length c_a_sectors), (Value.slice a_a_configs a.configs.length c_a_configs), (Value.slice a_a_segments a.segments.length c_a_segments), (Value.slice a_a_routes a.routes.length c_a_routes), (Value.slice a_a_airports a.airports.length c_a_airports), (Value.slice a_a_classes a.classes.length c_a_classes), (Value.slice a_a_rules a.rules.length c_a_rules)]) (vs := [(Value.slice a_a_volumes a.volumes.length c_a_volumes), (Value.slice a_a_sectors a.sectors.length c_a_sectors), (Value.slice a_a_configs a.configs.length c_a_configs), (Value.slice a_a_segments a.segments.length c_a_segments), (Value.slice a_a_routes a.routes.length c_a_routes), (Value.slice a_a_airports a.airports.length c_a_airports), (Value.slice a_a_classes a.classes.length c_a_classes), (Value.slice a_a_rules a.rules.length c_a_rules)]) (i := 3) ty31 hs173 rfl rfl rfl rfl ?_)
        refine Rg_op rfl (op_move (v := (Value.int .i64 from_)) rfl ?_)
        replace hm := bd hm; obtain ⟨reach_1, hv275, hm⟩ := hm
        refine Rg_op rfl (op_call Try.call17 (c17_configs_Reach (a := a) (from_ := from_) hs173.ltw f_a_volumes f_a_sectors f_a_configs f_a_segments f_a_routes f_a_airports f_a_classes f_a_rules r_from_ hv275) rfl ?_)
        rintro v276 w277 ⟨hx278, h279⟩
        have hs280 := hs173.call hx278
        have p281 := Step.ext (O := ks [(k_g164, o_g164), (k_g51, o_g51), (some b41, Obj.cells [(Value.slice a_a_volumes a.volumes.length c_a_volumes), (Value.slice a_g51 v_3.length c_g51), (Value.slice a_g164 v_5.length c_g164), (Value.slice none 0 0), (Value.slice none 0 0), (Value.slice none 0 0), (Value.slice none 0 0), (Value.slice none 0 0)].toArray 31), (some b1, Obj.cells [(Value.slice a_a_volumes a.volumes.length c_a_volumes), (Value.slice a_a_sectors a.sectors.length c_a_sectors), (Value.slice a_a_configs a.configs.length c_a_configs), (Value.slice a_a_segments a.segments.length c_a_segments), (Value.slice a_a_routes a.routes.length c_a_routes), (Value.slice a_a_airports a.airports.length c_a_airports), (Value.slice a_a_classes a.classes.length c_a_classes), (Value.slice a_a_rules a.rules.length c_a_rules)].toArray 31)] O) hx278
        clear hx278
        replace f_a_volumes := f_a_volumes.step p281; replace f_a_sectors := f_a_sectors.step p281; replace f_a_configs := f_a_configs.step p281; replace f_a_segments := f_a_segments.step p281; replace f_a_routes := f_a_routes.step p281; replace f_a_airports := f_a_airports.step p281; replace f_a_classes := f_a_classes.step p281; replace f_a_rules := f_a_rules.step p281; replace f_g51 := f_g51.step p281; replace f_g164 := f_g164.step p281; replace ch64 := ch64.trans p281; replace ch177 := ch177.trans p281; clear p281 hs173
        obtain ⟨v282, v283, rfl, h284, h285⟩ := h279
        obtain ⟨a_y286, c_y286, rfl, f_y286⟩ := un_sl h284
        obtain ⟨rfl, r_y287⟩ := h285
        refine Rg_op rfl (op_move (v := (Value.tuple [(Value.slice a_y286 reach_1.1.length c_y286), (Value.int .i64 reach_1.2)].toArray)) rfl ?_)
        refine Rg_op rfl (op_extract (v := (Value.slice a_y286 reach_1.1.length c_y286)) rfl rfl ?_)
        refine Rg_op rfl (op_extract (v := (Value.int .i64 reach_1.2)) rfl rfl ?_)
        refine Rg_op rfl (op_assign (v := (Value.slice a_y286 reach_1.1.length c_y286)) rfl ?_)
        refine Rg_op rfl (op_assign (v := (Value.int .i64 reach_1.2)) rfl ?_)
        refine Rg_nil ?_
        refine Wp_seq ?_
        refine Wp_region ?_
        refine Rg_op rfl (op_loadA (cs := [(Value.slice a_a_volumes a.volumes.length c_a_volumes), (Value.slice a_g51 v_3.length c_g51), (Value.slice a_g164 v_5.length c_g164), (Value.slice none 0 0), (Value.slice none 0 0), (Value.slice none 0 0), (Value.slice none 0 0), (Value.slice none 0 0)]) (vs := [(Value.slice a_a_volumes a.volumes.length c_a_volumes), (Value.slice a_g51 v_3.length c_g51), (Value.slice a_g164 v_5.length c_g164), (Value.slice none 0 0), (Value.slice none 0 0), (Value.slice none 0 0), (Value.slice none 0 0), (Value.slice none 0 0)]) (i := 2) ty31 hs280 rfl rfl rfl rfl ?_)
        refine Rg_op rfl (op_move (v := (Value.int .i64 from_)) rfl ?_)
        obtain ⟨hs289, p290, f288⟩ := Gs.publish (i := 1) hs280 rfl f_g51
        replace f_a_volumes := f_a_volumes.step p290; replace f_a_sectors := f_a_sectors.step p290; replace f_a_configs := f_a_configs.step p290; replace f_a_segments := f_a_segments.step p290; replace f_a_routes := f_a_routes.step p290; replace f_a_airports := f_a_airports.step p290; replace f_a_classes := f_a_classes.step p290; replace f_a_rules := f_a_rules.step p290; replace f_g164 := f_g164.step p290; replace f_y286 := f_y286.step p290; replace ch64 := ch64.trans p290; replace ch177 := ch177.trans p290; clear p290 hs280
        obtain ⟨hs292, p293, f291⟩ := Gs.publish (i := 0) hs289 rfl f_g164
        replace f_a_volumes := f_a_volumes.step p293; replace f_a_sectors := f_a_sectors.step p293; replace f_a_configs := f_a_configs.step p293; replace f_a_segments := f_a_segments.step p293; replace f_a_routes := f_a_routes.step p293; replace f_a_airports := f_a_airports.step p293; replace f_a_classes := f_a_classes.step p293; replace f_a_rules := f_a_rules.step p293; replace f_y286 := f_y286.step p293; replace f288 := f288.step p293; replace ch64 := ch64.trans p293; replace ch177 := ch177.trans p293; clear p293 hs289
        replace hm := bd hm; obtain ⟨reach_2, hv294, hm⟩ := hm
        refine Rg_op rfl (op_call Try.call17 (c17_configs_Reach (a := (⟨a.volumes, v_3, v_5, ([] : List XSegment), ([] : List XRoute), ([] : List XAirport), ([] : List XClass), ([] : List XRule)⟩ : XAirspace)) (from_ := from_) hs292.ltw f_a_volumes f288 f291 SlR.nil_ SlR.nil_ SlR.nil_ SlR.nil_ SlR.nil_ r_from_ hv294) rfl ?_)
        rintro v295 w296 ⟨hx297, h298⟩
        have hs299 := hs292.call hx297
        have p300 := Step.ext (O := ks [(some b41, Obj.cells [(Value.slice a_a_volumes a.volumes.length c_a_volumes), (Value.slice a_g51 v_3.length c_g51), (Value.slice a_g164 v_5.length c_g164), (Value.slice none 0 0), (Value.slice none 0 0), (Value.slice none 0 0), (Value.slice none 0 0), (Value.slice none 0 0)].toArray 31), (some b1, Obj.cells [(Value.slice a_a_volumes a.volumes.length c_a_volumes), (Value.slice a_a_sectors a.sectors.length c_a_sectors), (Value.slice a_a_configs a.configs.length c_a_configs), (Value.slice a_a_segments a.segments.length c_a_segments), (Value.slice a_a_routes a.routes.length c_a_routes), (Value.slice a_a_airports a.airports.length c_a_airports), (Value.slice a_a_classes a.classes.length c_a_classes), (Value.slice a_a_rules a.rules.length c_a_rules)].toArray 31)] O) hx297
        clear hx297
        replace f_a_volumes := f_a_volumes.step p300; replace f_a_sectors := f_a_sectors.step p300; replace f_a_configs := f_a_configs.step p300; replace f_a_segments := f_a_segments.step p300; replace f_a_routes := f_a_routes.step p300; replace f_a_airports := f_a_airports.step p300; replace f_a_classes := f_a_classes.step p300; replace f_a_rules := f_a_rules.step p300; replace f_y286 := f_y286.step p300; replace f288 := f288.step p300; replace f291 := f291.step p300; replace ch64 := ch64.trans p300; replace ch177 := ch177.trans p300; clear p300 hs292
        obtain ⟨v301, v302, rfl, h303, h304⟩ := h298
        obtain ⟨a_y305, c_y305, rfl, f_y305⟩ := un_sl h303
        obtain ⟨rfl, r_y306⟩ := h304
        refine Rg_op rfl (op_move (v := (Value.tuple [(Value.slice a_y305 reach_2.1.length c_y305), (Value.int .i64 reach_2.2)].toArray)) rfl ?_)
        refine Rg_op rfl (op_extract (v := (Value.slice a_y305 reach_2.1.length c_y305)) rfl rfl ?_)
        refine Rg_op rfl (op_extract (v := (Value.int .i64 reach_2.2)) rfl rfl ?_)
        refine Rg_op rfl (op_assign (v := (Value.slice a_y305 reach_2.1.length c_y305)) rfl ?_)
        refine Rg_op rfl (op_assign (v := (Value.int .i64 reach_2.2)) rfl ?_)
        refine Rg_nil ?_
        refine Wp_seq ?_
        refine Wp_region ?_
        refine Rg_op rfl (op_loadA (cs := [(Value.slice a_a_volumes a.volumes.length c_a_volumes), (Value.slice a_a_sectors a.sectors.length c_a_sectors), (Value.slice a_a_configs a.configs.length c_a_configs), (Value.slice a_a_segments a.segments.length c_a_segments), (Value.slice a_a_routes a.routes.length c_a_routes), (Value.slice a_a_airports a.airports.length c_a_airports), (Value.slice a_a_classes a.classes.length c_a_classes), (Value.slice a_a_rules a.rules.length c_a_rules)]) (vs := [(Value.slice a_a_volumes a.volumes.length c_a_volumes), (Value.slice a_a_sectors a.sectors.length c_a_sectors), (Value.slice a_a_configs a.configs.length c_a_configs), (Value.slice a_a_segments a.segments.length c_a_segments), (Value.slice a_a_routes a.routes.length c_a_routes), (Value.slice a_a_airports a.airports.length c_a_airports), (Value.slice a_a_classes a.classes.length c_a_classes), (Value.slice a_a_rules a.rules.length c_a_rules)]) (i := 1) ty31 hs299 rfl rfl rfl rfl ?_)
        refine Rg_op rfl (op_move (v := (Value.int .i64 to)) rfl ?_)
        refine Rg_op rfl (op_move (v := (Value.int .i64 volume)) rfl ?_)
        replace hm := bd hm; obtain ⟨sector_1, hv307, hm⟩ := hm
        refine Rg_op rfl (op_call Try.call13 (c13_configs_Sector (a := a) (konfig := to) (volume := volume) hs299.ltw f_a_volumes f_a_sectors f_a_configs f_a_segments f_a_routes f_a_airports f_a_classes f_a_rules r_to r_volume hv307) rfl ?_)
        rintro v308 w309 ⟨hx310, h311⟩
        have hs312 := hs299.call hx310
        have p313 := Step.ext (O := ks [(some b41, Obj.cells [(Value.slice a_a_volumes a.volumes.length c_a_volumes), (Value.slice a_g51 v_3.length c_g51), (Value.slice a_g164 v_5.length c_g164), (Value.slice none 0 0), (Value.slice none 0 0), (Value.slice none 0 0), (Value.slice none 0 0), (Value.slice none 0 0)].toArray 31), (some b1, Obj.cells [(Value.slice a_a_volumes a.volumes.length c_a_volumes), (Value.slice a_a_sectors a.sectors.length c_a_sectors), (Value.slice a_a_configs a.configs.length c_a_configs), (Value.slice a_a_segments a.segments.length c_a_segments), (Value.slice a_a_routes a.routes.length c_a_routes), (Value.slice a_a_airports a.airports.length c_a_airports), (Value.slice a_a_classes a.classes.length c_a_classes), (Value.slice a_a_rules a.rules.length c_a_rules)].toArray 31)] O) hx310
        clear hx310
        replace f_a_volumes := f_a_volumes.step p313; replace f_a_sectors := f_a_sectors.step p313; replace f_a_configs := f_a_configs.step p313; replace f_a_segments := f_a_segments.step p313; replace f_a_routes := f_a_routes.step p313; replace f_a_airports := f_a_airports.step p313; replace f_a_classes := f_a_classes.step p313; replace f_a_rules := f_a_rules.step p313; replace f_y286 := f_y286.step p313; replace f288 := f288.step p313; replace f291 := f291.step p313; replace f_y305 := f_y305.step p313; replace ch64 := ch64.trans p313; replace ch177 := ch177.trans p313; clear p313 hs299
        obtain ⟨v314, v315, rfl, h316, h317⟩ := h311
        obtain ⟨rfl, r_y318⟩ := h316
        obtain rfl := h317
        refine Rg_op rfl (op_move (v := (Value.tuple [(Value.int .i64 sector_1.1), (Value.bool sector_1.2)].toArray)) rfl ?_)
        refine Rg_op rfl (op_extract (v := (Value.int .i64 sector_1.1)) rfl rfl ?_)
        refine Rg_op rfl (op_extract (v := (Value.bool sector_1.2)) rfl rfl ?_)
        refine Rg_op rfl (op_assign (v := (Value.int .i64 sector_1.1)) rfl ?_)
        refine Rg_op rfl (op_assign (v := (Value.bool sector_1.2)) rfl ?_)
        refine Rg_nil ?_
        refine Wp_seq ?_
        refine Wp_reset [] [(1, (Value.int .i64 from_)), (2, (Value.int .i64 to)), (3, (Value.int .i64 volume)), (4, (Value.pointer (some ⟨b1, 0, none⟩))), (10, (Value.pointer (some ⟨b41, 0, none⟩))), (15, (Value.slice a_y286 reach_1.1.length c_y286)), (16, (Value.int .i64 reach_1.2)), (17, (Value.slice a_y305 reach_2.1.length c_y305)), (18, (Value.int .i64 reach_2.2)), (19, (Value.int .i64 sector_1.1)), (20, (Value.bool sector_1.2))] rfl ⟨rfl, rfl, rfl, rfl, rfl, rfl, rfl, rfl, rfl, rfl, rfl, trivial⟩ fun ξ320 => ?_
        refine Wp_region ?_
        refine Rg_op rfl (op_loadA (cs := [(Value.slice a_a_volumes a.volumes.length c_a_volumes), (Value.slice a_g51 v_3.length c_g51), (Value.slice a_g164 v_5.length c_g164), (Value.slice none 0 0), (Value.slice none 0 0), (Value.slice none 0 0), (Value.slice none 0 0), (Value.slice none 0 0)]) (vs := [(Value.slice a_a_volumes a.volumes.length c_a_volumes), (Value.slice a_g51 v_3.length c_g51), (Value.slice a_g164 v_5.length c_g164), (Value.slice none 0 0), (Value.slice none 0 0), (Value.slice none 0 0), (Value.slice none 0 0), (Value.slice none 0 0)]) (i := 0) ty31 hs312 rfl rfl rfl rfl ?_)
        refine Rg_op rfl (op_move (v := (Value.int .i64 to)) rfl ?_)
        refine Rg_op rfl (op_move (v := (Value.int .i64 volume)) rfl ?_)
        replace hm := bd hm; obtain ⟨sector_2, hv321, hm⟩ := hm
        refine Rg_op rfl (op_call Try.call13 (c13_configs_Sector (a := (⟨a.volumes, v_3, v_5, ([] : List XSegment), ([] : List XRoute), ([] : List XAirport), ([] : List XClass), ([] : List XRule)⟩ : XAirspace)) (konfig := to) (volume := volume) hs312.ltw f_a_volumes f288 f291 SlR.nil_ SlR.nil_ SlR.nil_ SlR.nil_ SlR.nil_ r_to r_volume hv321) rfl ?_)
        rintro v322 w323 ⟨hx324, h325⟩
        have hs326 := hs312.call hx324
        have p327 := Step.ext (O := ks [(some b41, Obj.cells [(Value.slice a_a_volumes a.volumes.length c_a_volumes), (Value.slice a_g51 v_3.length c_g51), (Value.slice a_g164 v_5.length c_g164), (Value.slice none 0 0), (Value.slice none 0 0), (Value.slice none 0 0), (Value.slice none 0 0), (Value.slice none 0 0)].toArray 31), (some b1, Obj.cells [(Value.slice a_a_volumes a.volumes.length c_a_volumes), (Value.slice a_a_sectors a.sectors.length c_a_sectors), (Value.slice a_a_configs a.configs.length c_a_configs), (Value.slice a_a_segments a.segments.length c_a_segments), (Value.slice a_a_routes a.routes.length c_a_routes), (Value.slice a_a_airports a.airports.length c_a_airports), (Value.slice a_a_classes a.classes.length c_a_classes), (Value.slice a_a_rules a.rules.length c_a_rules)].toArray 31)] O) hx324
        clear hx324
        replace f_a_volumes := f_a_volumes.step p327; replace f_a_sectors := f_a_sectors.step p327; replace f_a_configs := f_a_configs.step p327; replace f_a_segments := f_a_segments.step p327; replace f_a_routes := f_a_routes.step p327; replace f_a_airports := f_a_airports.step p327; replace f_a_classes := f_a_classes.step p327; replace f_a_rules := f_a_rules.step p327; replace f_y286 := f_y286.step p327; replace f288 := f288.step p327; replace f291 := f291.step p327; replace f_y305 := f_y305.step p327; replace ch64 := ch64.trans p327; replace ch177 := ch177.trans p327; clear p327 hs312
        obtain ⟨v328, v329, rfl, h330, h331⟩ := h325
        obtain ⟨rfl, r_y332⟩ := h330
        obtain rfl := h331
        refine Rg_op rfl (op_move (v := (Value.tuple [(Value.int .i64 sector_2.1), (Value.bool sector_2.2)].toArray)) rfl ?_)
        refine Rg_op rfl (op_extract (v := (Value.int .i64 sector_2.1)) rfl rfl ?_)
        refine Rg_op rfl (op_extract (v := (Value.bool sector_2.2)) rfl rfl ?_)
        refine Rg_op rfl (op_assign (v := (Value.int .i64 sector_2.1)) rfl ?_)
        refine Rg_op rfl (op_assign (v := (Value.bool sector_2.2)) rfl ?_)
        refine Rg_nil ?_
        refine Wp_reset [] [(1, (Value.int .i64 from_)), (2, (Value.int .i64 to)), (4, (Value.pointer (some ⟨b1, 0, none⟩))), (10, (Value.pointer (some ⟨b41, 0, none⟩))), (15, (Value.slice a_y286 reach_1.1.length c_y286)), (16, (Value.int .i64 reach_1.2)), (17, (Value.slice a_y305 reach_2.1.length c_y305)), (18, (Value.int .i64 reach_2.2)), (19, (Value.int .i64 sector_1.1)), (20, (Value.bool sector_1.2)), (21, (Value.int .i64 sector_2.1)), (22, (Value.bool sector_2.2))] rfl ⟨rfl, rfl, rfl, rfl, rfl, rfl, rfl, rfl, rfl, rfl, rfl, rfl, trivial⟩ fun ξ334 => ?_
        replace hm := jn_elim hm; obtain ⟨k336, hk337, hm⟩ := hm
        refine Wp_seqJ [8, 98, 99, 100, 101, 102, 103, 104, 105, 106, 107, 108, 109, 110, 111, 112, 113, 114, 115, 116, 117, 118, 119, 120, 121, 122, 123, 124, 125, 126, 127, 128, 129, 130, 131] (fun fr w' => ∃ (v_6 : Bool) (Ebs : Ents), Ebs = [(some b41, Obj.cells [(Value.slice a_a_volumes a.volumes.length c_a_volumes), (Value.slice a_g51 v_3.length c_g51), (Value.slice a_g164 v_5.length c_g164), (Value.slice none 0 0), (Value.slice none 0 0), (Value.slice none 0 0), (Value.slice none 0 0), (Value.slice none 0 0)].toArray 31), (some b1, Obj.cells [(Value.slice a_a_volumes a.volumes.length c_a_volumes), (Value.slice a_a_sectors a.sectors.length c_a_sectors), (Value.slice a_a_configs a.configs.length c_a_configs), (Value.slice a_a_segments a.segments.length c_a_segments), (Value.slice a_a_routes a.routes.length c_a_routes), (Value.slice a_a_airports a.airports.length c_a_airports), (Value.slice a_a_classes a.classes.length c_a_classes), (Value.slice a_a_rules a.rules.length c_a_rules)].toArray 31)] ∧ fr [] [(8, (Value.bool v_6))] ∧ Step (ks [(some b41, Obj.cells [(Value.slice a_a_volumes a.volumes.length c_a_volumes), (Value.slice a_g51 v_3.length c_g51), (Value.slice a_g164 v_5.length c_g164), (Value.slice none 0 0), (Value.slice none 0 0), (Value.slice none 0 0), (Value.slice none 0 0), (Value.slice none 0 0)].toArray 31), (some b1, Obj.cells [(Value.slice a_a_volumes a.volumes.length c_a_volumes), (Value.slice a_a_sectors a.sectors.length c_a_sectors), (Value.slice a_a_configs a.configs.length c_a_configs), (Value.slice a_a_segments a.segments.length c_a_segments), (Value.slice a_a_routes a.routes.length c_a_routes), (Value.slice a_a_airports a.airports.length c_a_airports), (Value.slice a_a_classes a.classes.length c_a_classes), (Value.slice a_a_rules a.rules.length c_a_rules)].toArray 31)] O) w323 (ks Ebs O) w' ∧ St ⟨w, [], []⟩ O w' Ebs ∧ k336 v_6 = some x) ?_ ?_
        ·
         rintro ρ343 w339 ⟨v_6, Ebs, hEbs, hfr342, hst341, hs340, hm⟩
         replace hm := jnE1 hk337 hm
         subst hEbs; rw [hfr342.eq]; clear hfr342
         replace f_a_volumes := f_a_volumes.step hst341; replace f_a_sectors := f_a_sectors.step hst341; replace f_a_configs := f_a_configs.step hst341; replace f_a_segments := f_a_segments.step hst341; replace f_a_routes := f_a_routes.step hst341; replace f_a_airports := f_a_airports.step hst341; replace f_a_classes := f_a_classes.step hst341; replace f_a_rules := f_a_rules.step hst341; replace f_y286 := f_y286.step hst341; replace f288 := f288.step hst341; replace f291 := f291.step hst341; replace f_y305 := f_y305.step hst341; replace ch64 := ch64.trans hst341; replace ch177 := ch177.trans hst341; clear hst341 hs326
         refine Wp_ret ?_
         have hz := step_all hs340
         replace f_a_volumes := f_a_volumes.step hz; replace f_a_sectors := f_a_sectors.step hz; replace f_a_configs := f_a_configs.step hz; replace f_a_segments := f_a_segments.step hz; replace f_a_routes := f_a_routes.step hz; replace f_a_airports := f_a_airports.step hz; replace f_a_classes := f_a_classes.step hz; replace f_a_rules := f_a_rules.step hz; replace f_y286 := f_y286.step hz; replace f288 := f288.step hz; replace f291 := f291.step hz; replace f_y305 := f_y305.step hz
         refine ⟨_, (show Closes [] _ _ from rfl), [(Value.bool v_6)], ⟨rfl, trivial⟩, hs340.ext, ?_⟩
         exact Vr.eq (a := vB) (x := v_6) rfl (Option.some.inj hm)
        ·
         intro K338 hK338
         have ch344 := Step.refl (ks [(some b41, Obj.cells [(Value.slice a_a_volumes a.volumes.length c_a_volumes), (Value.slice a_g51 v_3.length c_g51), (Value.slice a_g164 v_5.length c_g164), (Value.slice none 0 0), (Value.slice none 0 0), (Value.slice none 0 0), (Value.slice none 0 0), (Value.slice none 0 0)].toArray 31), (some b1, Obj.cells [(Value.slice a_a_volumes a.volumes.length c_a_volumes), (Value.slice a_a_sectors a.sectors.length c_a_sectors), (Value.slice a_a_configs a.configs.length c_a_configs), (Value.slice a_a_segments a.segments.length c_a_segments), (Value.slice a_a_routes a.routes.length c_a_routes), (Value.slice a_a_airports a.airports.length c_a_airports), (Value.slice a_a_classes a.classes.length c_a_classes), (Value.slice a_a_rules a.rules.length c_a_rules)].toArray 31)] O) w323
         refine Wp_drawR (g0 := []) (m := 32) (fl := []) (TS_inv hs326) (.inl rfl) rfl (by decide +kernel) ?_  -- 21
         refine Dw_eq (Value.agg [(Value.slice a_a_volumes a.volumes.length c_a_volumes), (Value.slice a_g51 v_3.length c_g51), (Value.slice a_g164 v_5.length c_g164), (Value.slice none 0 0), (Value.slice none 0 0), (Value.slice none 0 0), (Value.slice none 0 0), (Value.slice none 0 0)].toArray) (fun ρ345 w346 g hle hi ht => ?_) ?_
         ·
          obtain ⟨-, hst, -⟩ := hle
          have hsn := (Step.nx hi).1
          refine StepOp_plain (op_loadA (cs := [(Value.slice a_a_volumes a.volumes.length c_a_volumes), (Value.slice a_g51 v_3.length c_g51), (Value.slice a_g164 v_5.length c_g164), (Value.slice none 0 0), (Value.slice none 0 0), (Value.slice none 0 0), (Value.slice none 0 0), (Value.slice none 0 0)]) (vs := [(Value.slice a_a_volumes a.volumes.length c_a_volumes), (Value.slice a_g51 v_3.length c_g51), (Value.slice a_g164 v_5.length c_g164), (Value.slice none 0 0), (Value.slice none 0 0), (Value.slice none 0 0), (Value.slice none 0 0), (Value.slice none 0 0)]) (i := 0) ty31 hsn (ht 10 rfl) rfl rfl rfl ?_)
          exact Goes.same hi rfl
         replace hm := bd hm; obtain ⟨check_1, hv351, hm⟩ := hm
         refine Dw_op (VD O [(some b41, Obj.cells [(Value.slice a_a_volumes a.volumes.length c_a_volumes), (Value.slice a_g51 v_3.length c_g51), (Value.slice a_g164 v_5.length c_g164), (Value.slice none 0 0), (Value.slice none 0 0), (Value.slice none 0 0), (Value.slice none 0 0), (Value.slice none 0 0)].toArray 31), (some b1, Obj.cells [(Value.slice a_a_volumes a.volumes.length c_a_volumes), (Value.slice a_a_sectors a.sectors.length c_a_sectors), (Value.slice a_a_configs a.configs.length c_a_configs), (Value.slice a_a_segments a.segments.length c_a_segments), (Value.slice a_a_routes a.routes.length c_a_routes), (Value.slice a_a_airports a.airports.length c_a_airports), (Value.slice a_a_classes a.classes.length c_a_classes), (Value.slice a_a_rules a.rules.length c_a_rules)].toArray 31)] (vI .i64) check_1) (VD.stab _ _) (fun ρ348 w349 g hle hi ht => ?_) ?_
         ·
          obtain ⟨-, hst, -⟩ := hle
          replace f_a_volumes := f_a_volumes.step hst; replace f288 := f288.step hst; replace f291 := f291.step hst
          refine StepOp_plain (op_call Try.call15 (c15_configs_Check (O := ks (ents g ++ [(some b41, Obj.cells [(Value.slice a_a_volumes a.volumes.length c_a_volumes), (Value.slice a_g51 v_3.length c_g51), (Value.slice a_g164 v_5.length c_g164), (Value.slice none 0 0), (Value.slice none 0 0), (Value.slice none 0 0), (Value.slice none 0 0), (Value.slice none 0 0)].toArray 31), (some b1, Obj.cells [(Value.slice a_a_volumes a.volumes.length c_a_volumes), (Value.slice a_a_sectors a.sectors.length c_a_sectors), (Value.slice a_a_configs a.configs.length c_a_configs), (Value.slice a_a_segments a.segments.length c_a_segments), (Value.slice a_a_routes a.routes.length c_a_routes), (Value.slice a_a_airports a.airports.length c_a_airports), (Value.slice a_a_classes a.classes.length c_a_classes), (Value.slice a_a_rules a.rules.length c_a_rules)].toArray 31)]) O) (a := (⟨a.volumes, v_3, v_5, ([] : List XSegment), ([] : List XRoute), ([] : List XAirport), ([] : List XClass), ([] : List XRule)⟩ : XAirspace)) hi.ltw f_a_volumes f288 f291 SlR.nil_ SlR.nil_ SlR.nil_ SlR.nil_ SlR.nil_ hv351) (by simp only [List.map, Array.toList, (show ev _ (.tmp 98) = _ from (ht 98 rfl))] <;> rfl) ?_)
          rintro v352 w353 ⟨hx354, h355⟩
          exact Goes.call hi hx354 h355
         refine Dw_eq (Value.bool (decide (check_1 = 0))) (fun ρ357 w358 g hle hi ht => ?_) ?_
         ·
          obtain ⟨-, hst, -⟩ := hle
          have h360 : Vr.vd (vI .i64) _ _ _ _ := ht 99 rfl
          obtain ⟨q361, r_y362⟩ := h360
          refine StepOp_plain (op_eql q361 rfl ?_)
          exact Goes.same hi rfl
         refine Dw_opB (decide (check_1 = 0)) (fun ρ363 w364 g hle hi ht => ?_) (fun hg366 => ?_) (fun hg366 => ?_)
         ·
          obtain ⟨-, hst, -⟩ := hle
          refine StepOp_plain (op_move (v := (Value.bool (decide (check_1 = 0)))) (ht 100 rfl) ?_)
          exact Goes.same hi rfl
         ·
          replace hm := bif_t hm hg366
          refine Dw_eq (Value.agg [(Value.slice a_a_volumes a.volumes.length c_a_volumes), (Value.slice a_a_sectors a.sectors.length c_a_sectors), (Value.slice a_a_configs a.configs.length c_a_configs), (Value.slice a_a_segments a.segments.length c_a_segments), (Value.slice a_a_routes a.routes.length c_a_routes), (Value.slice a_a_airports a.airports.length c_a_airports), (Value.slice a_a_classes a.classes.length c_a_classes), (Value.slice a_a_rules a.rules.length c_a_rules)].toArray) (fun ρ367 w368 g hle hi ht => ?_) ?_
          ·
           obtain ⟨-, hst, -⟩ := hle
           have hsn := (Step.nx hi).1
           refine StepOp_g rfl (ht 101 rfl) (op_loadA (cs := [(Value.slice a_a_volumes a.volumes.length c_a_volumes), (Value.slice a_a_sectors a.sectors.length c_a_sectors), (Value.slice a_a_configs a.configs.length c_a_configs), (Value.slice a_a_segments a.segments.length c_a_segments), (Value.slice a_a_routes a.routes.length c_a_routes), (Value.slice a_a_airports a.airports.length c_a_airports), (Value.slice a_a_classes a.classes.length c_a_classes), (Value.slice a_a_rules a.rules.length c_a_rules)]) (vs := [(Value.slice a_a_volumes a.volumes.length c_a_volumes), (Value.slice a_a_sectors a.sectors.length c_a_sectors), (Value.slice a_a_configs a.configs.length c_a_configs), (Value.slice a_a_segments a.segments.length c_a_segments), (Value.slice a_a_routes a.routes.length c_a_routes), (Value.slice a_a_airports a.airports.length c_a_airports), (Value.slice a_a_classes a.classes.length c_a_classes), (Value.slice a_a_rules a.rules.length c_a_rules)]) (i := 1) ty31 hsn (ht 4 rfl) rfl rfl rfl ?_)
           exact Goes.same hi rfl
          refine Dw_eq (Value.int .i64 from_) (fun ρ370 w371 g hle hi ht => ?_) ?_
          ·
           obtain ⟨-, hst, -⟩ := hle
           refine StepOp_g rfl (ht 101 rfl) (op_move (v := (Value.int .i64 from_)) (ht 1 rfl) ?_)
           exact Goes.same hi rfl
          refine Dw_eq (Value.int .i64 to) (fun ρ373 w374 g hle hi ht => ?_) ?_
          ·
           obtain ⟨-, hst, -⟩ := hle
           refine StepOp_g rfl (ht 101 rfl) (op_move (v := (Value.int .i64 to)) (ht 2 rfl) ?_)
           exact Goes.same hi rfl
          replace hm := bd hm; obtain ⟨step_1, hv379, hm⟩ := hm
          refine Dw_op (VD O [(some b41, Obj.cells [(Value.slice a_a_volumes a.volumes.length c_a_volumes), (Value.slice a_g51 v_3.length c_g51), (Value.slice a_g164 v_5.length c_g164), (Value.slice none 0 0), (Value.slice none 0 0), (Value.slice none 0 0), (Value.slice none 0 0), (Value.slice none 0 0)].toArray 31), (some b1, Obj.cells [(Value.slice a_a_volumes a.volumes.length c_a_volumes), (Value.slice a_a_sectors a.sectors.length c_a_sectors), (Value.slice a_a_configs a.configs.length c_a_configs), (Value.slice a_a_segments a.segments.length c_a_segments), (Value.slice a_a_routes a.routes.length c_a_routes), (Value.slice a_a_airports a.airports.length c_a_airports), (Value.slice a_a_classes a.classes.length c_a_classes), (Value.slice a_a_rules a.rules.length c_a_rules)].toArray 31)] vB step_1) (VD.stab _ _) (fun ρ376 w377 g hle hi ht => ?_) ?_
          ·
           obtain ⟨-, hst, -⟩ := hle
           replace f_a_volumes := f_a_volumes.step hst; replace f_a_sectors := f_a_sectors.step hst; replace f_a_configs := f_a_configs.step hst; replace f_a_segments := f_a_segments.step hst; replace f_a_routes := f_a_routes.step hst; replace f_a_airports := f_a_airports.step hst; replace f_a_classes := f_a_classes.step hst; replace f_a_rules := f_a_rules.step hst
           refine StepOp_g rfl (ht 101 rfl) (op_call Try.call19 (c19_configs_Step (O := ks (ents g ++ [(some b41, Obj.cells [(Value.slice a_a_volumes a.volumes.length c_a_volumes), (Value.slice a_g51 v_3.length c_g51), (Value.slice a_g164 v_5.length c_g164), (Value.slice none 0 0), (Value.slice none 0 0), (Value.slice none 0 0), (Value.slice none 0 0), (Value.slice none 0 0)].toArray 31), (some b1, Obj.cells [(Value.slice a_a_volumes a.volumes.length c_a_volumes), (Value.slice a_a_sectors a.sectors.length c_a_sectors), (Value.slice a_a_configs a.configs.length c_a_configs), (Value.slice a_a_segments a.segments.length c_a_segments), (Value.slice a_a_routes a.routes.length c_a_routes), (Value.slice a_a_airports a.airports.length c_a_airports), (Value.slice a_a_classes a.classes.length c_a_classes), (Value.slice a_a_rules a.rules.length c_a_rules)].toArray 31)]) O) (a := a) (from_ := from_) (to := to) hi.ltw f_a_volumes f_a_sectors f_a_configs f_a_segments f_a_routes f_a_airports f_a_classes f_a_rules r_from_ r_to hv379) (by simp only [List.map, Array.toList, (show ev _ (.tmp 102) = _ from (ht 102 rfl)), (show ev _ (.tmp 103) = _ from (ht 103 rfl)), (show ev _ (.tmp 104) = _ from (ht 104 rfl))] <;> rfl) ?_)
           rintro v380 w381 ⟨hx382, h383⟩
           exact Goes.call hi hx382 h383
          refine Dw_eq (Value.agg [(Value.slice a_a_volumes a.volumes.length c_a_volumes), (Value.slice a_g51 v_3.length c_g51), (Value.slice a_g164 v_5.length c_g164), (Value.slice none 0 0), (Value.slice none 0 0), (Value.slice none 0 0), (Value.slice none 0 0), (Value.slice none 0 0)].toArray) (fun ρ385 w386 g hle hi ht => ?_) ?_
          ·
           obtain ⟨-, hst, -⟩ := hle
           have hsn := (Step.nx hi).1
           refine StepOp_g rfl (ht 101 rfl) (op_loadA (cs := [(Value.slice a_a_volumes a.volumes.length c_a_volumes), (Value.slice a_g51 v_3.length c_g51), (Value.slice a_g164 v_5.length c_g164), (Value.slice none 0 0), (Value.slice none 0 0), (Value.slice none 0 0), (Value.slice none 0 0), (Value.slice none 0 0)]) (vs := [(Value.slice a_a_volumes a.volumes.length c_a_volumes), (Value.slice a_g51 v_3.length c_g51), (Value.slice a_g164 v_5.length c_g164), (Value.slice none 0 0), (Value.slice none 0 0), (Value.slice none 0 0), (Value.slice none 0 0), (Value.slice none 0 0)]) (i := 0) ty31 hsn (ht 10 rfl) rfl rfl rfl ?_)
           exact Goes.same hi rfl
          refine Dw_eq (Value.int .i64 from_) (fun ρ388 w389 g hle hi ht => ?_) ?_
          ·
           obtain ⟨-, hst, -⟩ := hle
           refine StepOp_g rfl (ht 101 rfl) (op_move (v := (Value.int .i64 from_)) (ht 1 rfl) ?_)
           exact Goes.same hi rfl
          refine Dw_eq (Value.int .i64 to) (fun ρ391 w392 g hle hi ht => ?_) ?_
          ·
           obtain ⟨-, hst, -⟩ := hle
           refine StepOp_g rfl (ht 101 rfl) (op_move (v := (Value.int .i64 to)) (ht 2 rfl) ?_)
           exact Goes.same hi rfl
          replace hm := bd hm; obtain ⟨step_2, hv397, hm⟩ := hm
          refine Dw_op (VD O [(some b41, Obj.cells [(Value.slice a_a_volumes a.volumes.length c_a_volumes), (Value.slice a_g51 v_3.length c_g51), (Value.slice a_g164 v_5.length c_g164), (Value.slice none 0 0), (Value.slice none 0 0), (Value.slice none 0 0), (Value.slice none 0 0), (Value.slice none 0 0)].toArray 31), (some b1, Obj.cells [(Value.slice a_a_volumes a.volumes.length c_a_volumes), (Value.slice a_a_sectors a.sectors.length c_a_sectors), (Value.slice a_a_configs a.configs.length c_a_configs), (Value.slice a_a_segments a.segments.length c_a_segments), (Value.slice a_a_routes a.routes.length c_a_routes), (Value.slice a_a_airports a.airports.length c_a_airports), (Value.slice a_a_classes a.classes.length c_a_classes), (Value.slice a_a_rules a.rules.length c_a_rules)].toArray 31)] vB step_2) (VD.stab _ _) (fun ρ394 w395 g hle hi ht => ?_) ?_
          ·
           obtain ⟨-, hst, -⟩ := hle
           replace f_a_volumes := f_a_volumes.step hst; replace f288 := f288.step hst; replace f291 := f291.step hst
           refine StepOp_g rfl (ht 101 rfl) (op_call Try.call19 (c19_configs_Step (O := ks (ents g ++ [(some b41, Obj.cells [(Value.slice a_a_volumes a.volumes.length c_a_volumes), (Value.slice a_g51 v_3.length c_g51), (Value.slice a_g164 v_5.length c_g164), (Value.slice none 0 0), (Value.slice none 0 0), (Value.slice none 0 0), (Value.slice none 0 0), (Value.slice none 0 0)].toArray 31), (some b1, Obj.cells [(Value.slice a_a_volumes a.volumes.length c_a_volumes), (Value.slice a_a_sectors a.sectors.length c_a_sectors), (Value.slice a_a_configs a.configs.length c_a_configs), (Value.slice a_a_segments a.segments.length c_a_segments), (Value.slice a_a_routes a.routes.length c_a_routes), (Value.slice a_a_airports a.airports.length c_a_airports), (Value.slice a_a_classes a.classes.length c_a_classes), (Value.slice a_a_rules a.rules.length c_a_rules)].toArray 31)]) O) (a := (⟨a.volumes, v_3, v_5, ([] : List XSegment), ([] : List XRoute), ([] : List XAirport), ([] : List XClass), ([] : List XRule)⟩ : XAirspace)) (from_ := from_) (to := to) hi.ltw f_a_volumes f288 f291 SlR.nil_ SlR.nil_ SlR.nil_ SlR.nil_ SlR.nil_ r_from_ r_to hv397) (by simp only [List.map, Array.toList, (show ev _ (.tmp 106) = _ from (ht 106 rfl)), (show ev _ (.tmp 107) = _ from (ht 107 rfl)), (show ev _ (.tmp 108) = _ from (ht 108 rfl))] <;> rfl) ?_)
           rintro v398 w399 ⟨hx400, h401⟩
           exact Goes.call hi hx400 h401
          refine Dw_eq (Value.bool (step_1 == step_2)) (fun ρ403 w404 g hle hi ht => ?_) ?_
          ·
           obtain ⟨-, hst, -⟩ := hle
           have h406 : Vr.vd vB _ _ _ _ := ht 105 rfl
           have q407 : _ = (Value.bool step_1) := h406
           have h409 : Vr.vd vB _ _ _ _ := ht 109 rfl
           have q410 : _ = (Value.bool step_2) := h409
           refine StepOp_g rfl (ht 101 rfl) (op_eqb Try.underlying4 q407 q410 ?_)
           exact Goes.same hi rfl
          refine Dw_eq (Value.bool (step_1 == step_2)) (fun ρ412 w413 g hle hi ht => ?_) ?_
          ·
           obtain ⟨-, hst, -⟩ := hle
           refine StepOp_plain (op_pick_t (v := (Value.bool (step_1 == step_2))) (ht 101 rfl) (ht 110 rfl) ?_)
           exact Goes.same hi rfl
          refine Dw_opB (step_1 == step_2) (fun ρ415 w416 g hle hi ht => ?_) (fun hg418 => ?_) (fun hg418 => ?_)
          ·
           obtain ⟨-, hst, -⟩ := hle
           refine StepOp_plain (op_move (v := (Value.bool (step_1 == step_2))) (ht 111 rfl) ?_)
           exact Goes.same hi rfl
          ·
           replace hm := bif_t hm hg418
           refine Dw_eq (Value.slice a_y286 reach_1.1.length c_y286) (fun ρ419 w420 g hle hi ht => ?_) ?_
           ·
            obtain ⟨-, hst, -⟩ := hle
            refine StepOp_g rfl (ht 112 rfl) (op_move (v := (Value.slice a_y286 reach_1.1.length c_y286)) (ht 15 rfl) ?_)
            exact Goes.same hi rfl
           refine Dw_eq (Value.slice a_y305 reach_2.1.length c_y305) (fun ρ422 w423 g hle hi ht => ?_) ?_
           ·
            obtain ⟨-, hst, -⟩ := hle
            refine StepOp_g rfl (ht 112 rfl) (op_move (v := (Value.slice a_y305 reach_2.1.length c_y305)) (ht 17 rfl) ?_)
            exact Goes.same hi rfl
           replace hm := bd hm; obtain ⟨sameints_1, hv428, hm⟩ := hm
           refine Dw_op (VD O [(some b41, Obj.cells [(Value.slice a_a_volumes a.volumes.length c_a_volumes), (Value.slice a_g51 v_3.length c_g51), (Value.slice a_g164 v_5.length c_g164), (Value.slice none 0 0), (Value.slice none 0 0), (Value.slice none 0 0), (Value.slice none 0 0), (Value.slice none 0 0)].toArray 31), (some b1, Obj.cells [(Value.slice a_a_volumes a.volumes.length c_a_volumes), (Value.slice a_a_sectors a.sectors.length c_a_sectors), (Value.slice a_a_configs a.configs.length c_a_configs), (Value.slice a_a_segments a.segments.length c_a_segments), (Value.slice a_a_routes a.routes.length c_a_routes), (Value.slice a_a_airports a.airports.length c_a_airports), (Value.slice a_a_classes a.classes.length c_a_classes), (Value.slice a_a_rules a.rules.length c_a_rules)].toArray 31)] vB sameints_1) (VD.stab _ _) (fun ρ425 w426 g hle hi ht => ?_) ?_
           ·
            obtain ⟨-, hst, -⟩ := hle
            replace f_y286 := f_y286.step hst; replace f_y305 := f_y305.step hst
            refine StepOp_g rfl (ht 112 rfl) (op_call Try.call21 (c21_overflightref10_SameInts (O := ks (ents g ++ [(some b41, Obj.cells [(Value.slice a_a_volumes a.volumes.length c_a_volumes), (Value.slice a_g51 v_3.length c_g51), (Value.slice a_g164 v_5.length c_g164), (Value.slice none 0 0), (Value.slice none 0 0), (Value.slice none 0 0), (Value.slice none 0 0), (Value.slice none 0 0)].toArray 31), (some b1, Obj.cells [(Value.slice a_a_volumes a.volumes.length c_a_volumes), (Value.slice a_a_sectors a.sectors.length c_a_sectors), (Value.slice a_a_configs a.configs.length c_a_configs), (Value.slice a_a_segments a.segments.length c_a_segments), (Value.slice a_a_routes a.routes.length c_a_routes), (Value.slice a_a_airports a.airports.length c_a_airports), (Value.slice a_a_classes a.classes.length c_a_classes), (Value.slice a_a_rules a.rules.length c_a_rules)].toArray 31)]) O) (a := reach_1.1) (b := reach_2.1) hi.ltw f_y286 f_y305 hv428) (by simp only [List.map, Array.toList, (show ev _ (.tmp 113) = _ from (ht 113 rfl)), (show ev _ (.tmp 114) = _ from (ht 114 rfl))] <;> rfl) ?_)
            rintro v429 w430 ⟨hx431, h432⟩
            exact Goes.call hi hx431 h432
           refine Dw_eq (Value.bool sameints_1) (fun ρ434 w435 g hle hi ht => ?_) ?_
           ·
            obtain ⟨-, hst, -⟩ := hle
            have h437 : Vr.vd vB _ _ _ _ := ht 115 rfl
            have q438 : _ = (Value.bool sameints_1) := h437
            refine StepOp_plain (op_pick_t (v := (Value.bool sameints_1)) (ht 112 rfl) q438 ?_)
            exact Goes.same hi rfl
           refine Dw_opB sameints_1 (fun ρ440 w441 g hle hi ht => ?_) (fun hg443 => ?_) (fun hg443 => ?_)
           ·
            obtain ⟨-, hst, -⟩ := hle
            refine StepOp_plain (op_move (v := (Value.bool sameints_1)) (ht 116 rfl) ?_)
            exact Goes.same hi rfl
           ·
            replace hm := bif_t hm hg443
            refine Dw_eq (Value.int .i64 reach_1.2) (fun ρ444 w445 g hle hi ht => ?_) ?_
            ·
             obtain ⟨-, hst, -⟩ := hle
             refine StepOp_g rfl (ht 117 rfl) (op_move (v := (Value.int .i64 reach_1.2)) (ht 16 rfl) ?_)
             exact Goes.same hi rfl
            refine Dw_eq (Value.int .i64 reach_2.2) (fun ρ447 w448 g hle hi ht => ?_) ?_
            ·
             obtain ⟨-, hst, -⟩ := hle
             refine StepOp_g rfl (ht 117 rfl) (op_move (v := (Value.int .i64 reach_2.2)) (ht 18 rfl) ?_)
             exact Goes.same hi rfl
            refine Dw_eq (Value.bool (decide (reach_1.2 = reach_2.2))) (fun ρ450 w451 g hle hi ht => ?_) ?_
            ·
             obtain ⟨-, hst, -⟩ := hle
             refine StepOp_g rfl (ht 117 rfl) (op_eql (ht 118 rfl) (ht 119 rfl) ?_)
             exact Goes.same hi rfl
            refine Dw_eq (Value.bool (decide (reach_1.2 = reach_2.2))) (fun ρ453 w454 g hle hi ht => ?_) ?_
            ·
             obtain ⟨-, hst, -⟩ := hle
             refine StepOp_plain (op_pick_t (v := (Value.bool (decide (reach_1.2 = reach_2.2)))) (ht 117 rfl) (ht 120 rfl) ?_)
             exact Goes.same hi rfl
            refine Dw_opB (decide (reach_1.2 = reach_2.2)) (fun ρ456 w457 g hle hi ht => ?_) (fun hg459 => ?_) (fun hg459 => ?_)
            ·
             obtain ⟨-, hst, -⟩ := hle
             refine StepOp_plain (op_move (v := (Value.bool (decide (reach_1.2 = reach_2.2)))) (ht 121 rfl) ?_)
             exact Goes.same hi rfl
            ·
             replace hm := bif_t hm hg459
             refine Dw_eq (Value.int .i64 sector_1.1) (fun ρ460 w461 g hle hi ht => ?_) ?_
             ·
              obtain ⟨-, hst, -⟩ := hle
              refine StepOp_g rfl (ht 122 rfl) (op_move (v := (Value.int .i64 sector_1.1)) (ht 19 rfl) ?_)
              exact Goes.same hi rfl
             refine Dw_eq (Value.int .i64 sector_2.1) (fun ρ463 w464 g hle hi ht => ?_) ?_
             ·
              obtain ⟨-, hst, -⟩ := hle
              refine StepOp_g rfl (ht 122 rfl) (op_move (v := (Value.int .i64 sector_2.1)) (ht 21 rfl) ?_)
              exact Goes.same hi rfl
             refine Dw_eq (Value.bool (decide (sector_1.1 = sector_2.1))) (fun ρ466 w467 g hle hi ht => ?_) ?_
             ·
              obtain ⟨-, hst, -⟩ := hle
              refine StepOp_g rfl (ht 122 rfl) (op_eql (ht 123 rfl) (ht 124 rfl) ?_)
              exact Goes.same hi rfl
             refine Dw_eq (Value.bool (decide (sector_1.1 = sector_2.1))) (fun ρ469 w470 g hle hi ht => ?_) ?_
             ·
              obtain ⟨-, hst, -⟩ := hle
              refine StepOp_plain (op_pick_t (v := (Value.bool (decide (sector_1.1 = sector_2.1)))) (ht 122 rfl) (ht 125 rfl) ?_)
              exact Goes.same hi rfl
             refine Dw_opB (decide (sector_1.1 = sector_2.1)) (fun ρ472 w473 g hle hi ht => ?_) (fun hg475 => ?_) (fun hg475 => ?_)
             ·
              obtain ⟨-, hst, -⟩ := hle
              refine StepOp_plain (op_move (v := (Value.bool (decide (sector_1.1 = sector_2.1)))) (ht 126 rfl) ?_)
              exact Goes.same hi rfl
             ·
              replace hm := bif_t hm hg475
              refine Dw_eq (Value.bool sector_1.2) (fun ρ476 w477 g hle hi ht => ?_) ?_
              ·
               obtain ⟨-, hst, -⟩ := hle
               refine StepOp_g rfl (ht 127 rfl) (op_move (v := (Value.bool sector_1.2)) (ht 20 rfl) ?_)
               exact Goes.same hi rfl
              refine Dw_eq (Value.bool sector_2.2) (fun ρ479 w480 g hle hi ht => ?_) ?_
              ·
               obtain ⟨-, hst, -⟩ := hle
               refine StepOp_g rfl (ht 127 rfl) (op_move (v := (Value.bool sector_2.2)) (ht 22 rfl) ?_)
               exact Goes.same hi rfl
              refine Dw_nil fun w486 g487 hl488 hi489 => ?_
              obtain ⟨-, hst490, -⟩ := hl488
              obtain ⟨hs492, p491⟩ := Step.nx hi489
              rintro _ rfl
              rintro _ rfl
              rintro _ rfl
              rintro _ rfl
              rintro _ rfl
              rintro _ rfl
              rintro _ rfl
              rintro _ rfl
              rintro _ rfl
              rintro _ rfl
              rintro _ rfl
              rintro _ rfl
              rintro _ rfl
              rintro _ rfl
              rintro v493 h494
              replace h494 : Vr.vd vB _ _ _ _ := h494
              obtain rfl := h494
              rintro _ rfl
              rintro _ rfl
              rintro _ rfl
              rintro _ rfl
              rintro _ rfl
              rintro v496 h497
              replace h497 : Vr.vd vB _ _ _ _ := h497
              obtain rfl := h497
              rintro _ rfl
              rintro _ rfl
              rintro _ rfl
              rintro v499 h500
              replace h500 : Vr.vd vB _ _ _ _ := h500
              obtain rfl := h500
              rintro _ rfl
              rintro _ rfl
              rintro _ rfl
              rintro _ rfl
              rintro _ rfl
              rintro v502 h503
              replace h503 : Vr.vd (vI .i64) _ _ _ _ := h503
              obtain ⟨rfl, r_y504⟩ := h503
              rintro _ rfl
              have p505 : Step (ks [(some b41, Obj.cells [(Value.slice a_a_volumes a.volumes.length c_a_volumes), (Value.slice a_g51 v_3.length c_g51), (Value.slice a_g164 v_5.length c_g164), (Value.slice none 0 0), (Value.slice none 0 0), (Value.slice none 0 0), (Value.slice none 0 0), (Value.slice none 0 0)].toArray 31), (some b1, Obj.cells [(Value.slice a_a_volumes a.volumes.length c_a_volumes), (Value.slice a_a_sectors a.sectors.length c_a_sectors), (Value.slice a_a_configs a.configs.length c_a_configs), (Value.slice a_a_segments a.segments.length c_a_segments), (Value.slice a_a_routes a.routes.length c_a_routes), (Value.slice a_a_airports a.airports.length c_a_airports), (Value.slice a_a_classes a.classes.length c_a_classes), (Value.slice a_a_rules a.rules.length c_a_rules)].toArray 31)] O) w323 (ks [(some b41, Obj.cells [(Value.slice a_a_volumes a.volumes.length c_a_volumes), (Value.slice a_g51 v_3.length c_g51), (Value.slice a_g164 v_5.length c_g164), (Value.slice none 0 0), (Value.slice none 0 0), (Value.slice none 0 0), (Value.slice none 0 0), (Value.slice none 0 0)].toArray 31), (some b1, Obj.cells [(Value.slice a_a_volumes a.volumes.length c_a_volumes), (Value.slice a_a_sectors a.sectors.length c_a_sectors), (Value.slice a_a_configs a.configs.length c_a_configs), (Value.slice a_a_segments a.segments.length c_a_segments), (Value.slice a_a_routes a.routes.length c_a_routes), (Value.slice a_a_airports a.airports.length c_a_airports), (Value.slice a_a_classes a.classes.length c_a_classes), (Value.slice a_a_rules a.rules.length c_a_rules)].toArray 31)] O) w486 := hst490.trans p491
              replace f_a_volumes := f_a_volumes.step p505; replace f_a_sectors := f_a_sectors.step p505; replace f_a_configs := f_a_configs.step p505; replace f_a_segments := f_a_segments.step p505; replace f_a_routes := f_a_routes.step p505; replace f_a_airports := f_a_airports.step p505; replace f_a_classes := f_a_classes.step p505; replace f_a_rules := f_a_rules.step p505; replace f_y286 := f_y286.step p505; replace f288 := f288.step p505; replace f291 := f291.step p505; replace f_y305 := f_y305.step p505; replace ch64 := ch64.trans p505; replace ch177 := ch177.trans p505; replace ch344 := ch344.trans p505; clear p505 hs326
              refine Rg_opg rfl rfl rfl (op_eqb Try.underlying4 rfl rfl ?_)
              refine Rg_op rfl (op_pick_t (v := (Value.bool (sector_1.2 == sector_2.2))) rfl rfl ?_)
              refine Rg_op rfl (op_assign (v := (Value.bool (sector_1.2 == sector_2.2))) rfl ?_)
              refine Rg_nil ?_
              exact hK338 _ _ ⟨(sector_1.2 == sector_2.2), _, rfl, ⟨(by repeat (first | with_reducible exact Out.refl _ _ | refine Out.upd ?_ rfl | refine Out.updL ?_ rfl | refine Out.mix' ?_ rfl | exact Out.refl _ _)), rfl, rfl, trivial⟩, ch344, hs492, hm⟩
             ·
              replace hm := bif_f hm hg475
              refine Dw_skip (fun _ _ _ ht => wanted_x rfl (ht 127 rfl) rfl) ?_
              refine Dw_skip (fun _ _ _ ht => wanted_x rfl (ht 127 rfl) rfl) ?_
              refine Dw_nil fun w510 g511 hl512 hi513 => ?_
              obtain ⟨-, hst514, -⟩ := hl512
              obtain ⟨hs516, p515⟩ := Step.nx hi513
              rintro _ rfl
              rintro _ rfl
              rintro _ rfl
              rintro _ rfl
              rintro _ rfl
              rintro _ rfl
              rintro _ rfl
              rintro _ rfl
              rintro _ rfl
              rintro _ rfl
              rintro _ rfl
              rintro _ rfl
              rintro _ rfl
              rintro _ rfl
              rintro v517 h518
              replace h518 : Vr.vd vB _ _ _ _ := h518
              obtain rfl := h518
              rintro _ rfl
              rintro _ rfl
              rintro _ rfl
              rintro _ rfl
              rintro _ rfl
              rintro v520 h521
              replace h521 : Vr.vd vB _ _ _ _ := h521
              obtain rfl := h521
              rintro _ rfl
              rintro _ rfl
              rintro _ rfl
              rintro v523 h524
              replace h524 : Vr.vd vB _ _ _ _ := h524
              obtain rfl := h524
              rintro _ rfl
              rintro _ rfl
              rintro _ rfl
              rintro _ rfl
              rintro _ rfl
              rintro v526 h527
              replace h527 : Vr.vd (vI .i64) _ _ _ _ := h527
              obtain ⟨rfl, r_y528⟩ := h527
              rintro _ rfl
              have p529 : Step (ks [(some b41, Obj.cells [(Value.slice a_a_volumes a.volumes.length c_a_volumes), (Value.slice a_g51 v_3.length c_g51), (Value.slice a_g164 v_5.length c_g164), (Value.slice none 0 0), (Value.slice none 0 0), (Value.slice none 0 0), (Value.slice none 0 0), (Value.slice none 0 0)].toArray 31), (some b1, Obj.cells [(Value.slice a_a_volumes a.volumes.length c_a_volumes), (Value.slice a_a_sectors a.sectors.length c_a_sectors), (Value.slice a_a_configs a.configs.length c_a_configs), (Value.slice a_a_segments a.segments.length c_a_segments), (Value.slice a_a_routes a.routes.length c_a_routes), (Value.slice a_a_airports a.airports.length c_a_airports), (Value.slice a_a_classes a.classes.length c_a_classes), (Value.slice a_a_rules a.rules.length c_a_rules)].toArray 31)] O) w323 (ks [(some b41, Obj.cells [(Value.slice a_a_volumes a.volumes.length c_a_volumes), (Value.slice a_g51 v_3.length c_g51), (Value.slice a_g164 v_5.length c_g164), (Value.slice none 0 0), (Value.slice none 0 0), (Value.slice none 0 0), (Value.slice none 0 0), (Value.slice none 0 0)].toArray 31), (some b1, Obj.cells [(Value.slice a_a_volumes a.volumes.length c_a_volumes), (Value.slice a_a_sectors a.sectors.length c_a_sectors), (Value.slice a_a_configs a.configs.length c_a_configs), (Value.slice a_a_segments a.segments.length c_a_segments), (Value.slice a_a_routes a.routes.length c_a_routes), (Value.slice a_a_airports a.airports.length c_a_airports), (Value.slice a_a_classes a.classes.length c_a_classes), (Value.slice a_a_rules a.rules.length c_a_rules)].toArray 31)] O) w510 := hst514.trans p515
              replace f_a_volumes := f_a_volumes.step p529; replace f_a_sectors := f_a_sectors.step p529; replace f_a_configs := f_a_configs.step p529; replace f_a_segments := f_a_segments.step p529; replace f_a_routes := f_a_routes.step p529; replace f_a_airports := f_a_airports.step p529; replace f_a_classes := f_a_classes.step p529; replace f_a_rules := f_a_rules.step p529; replace f_y286 := f_y286.step p529; replace f288 := f288.step p529; replace f291 := f291.step p529; replace f_y305 := f_y305.step p529; replace ch64 := ch64.trans p529; replace ch177 := ch177.trans p529; replace ch344 := ch344.trans p529; clear p529 hs326
              refine Rg_opx rfl (asB_ne rfl rfl) rfl ?_
              refine Rg_op rfl (op_pick_f (v := (Value.bool false)) rfl rfl ?_)
              refine Rg_op rfl (op_assign (v := (Value.bool false)) rfl ?_)
              refine Rg_nil ?_
              exact hK338 _ _ ⟨false, _, rfl, ⟨(by repeat (first | with_reducible exact Out.refl _ _ | refine Out.upd ?_ rfl | refine Out.updL ?_ rfl | refine Out.mix' ?_ rfl | exact Out.refl _ _)), rfl, rfl, trivial⟩, ch344, hs516, hm⟩
            ·
             replace hm := bif_f hm hg459
             refine Dw_skip (fun _ _ _ ht => wanted_x rfl (ht 122 rfl) rfl) ?_
             refine Dw_skip (fun _ _ _ ht => wanted_x rfl (ht 122 rfl) rfl) ?_
             refine Dw_skip (fun _ _ _ ht => wanted_x rfl (ht 122 rfl) rfl) ?_
             refine Dw_eq (Value.bool false) (fun ρ530 w531 g hle hi ht => ?_) ?_
             ·
              obtain ⟨-, hst, -⟩ := hle
              refine StepOp_plain (op_pick_f (v := (Value.bool false)) (ht 122 rfl) rfl ?_)
              exact Goes.same hi rfl
             refine Dw_eq (Value.bool false) (fun ρ533 w534 g hle hi ht => ?_) ?_
             ·
              obtain ⟨-, hst, -⟩ := hle
              refine StepOp_plain (op_move (v := (Value.bool false)) (ht 126 rfl) ?_)
              exact Goes.same hi rfl
             refine Dw_skip (fun _ _ _ ht => wanted_x rfl (ht 127 rfl) rfl) ?_
             refine Dw_skip (fun _ _ _ ht => wanted_x rfl (ht 127 rfl) rfl) ?_
             refine Dw_nil fun w540 g541 hl542 hi543 => ?_
             obtain ⟨-, hst544, -⟩ := hl542
             obtain ⟨hs546, p545⟩ := Step.nx hi543
             rintro _ rfl
             rintro _ rfl
             rintro _ rfl
             rintro _ rfl
             rintro _ rfl
             rintro _ rfl
             rintro _ rfl
             rintro _ rfl
             rintro _ rfl
             rintro _ rfl
             rintro _ rfl
             rintro _ rfl
             rintro _ rfl
             rintro _ rfl
             rintro v547 h548
             replace h548 : Vr.vd vB _ _ _ _ := h548
             obtain rfl := h548
             rintro _ rfl
             rintro _ rfl
             rintro _ rfl
             rintro _ rfl
             rintro _ rfl
             rintro v550 h551
             replace h551 : Vr.vd vB _ _ _ _ := h551
             obtain rfl := h551
             rintro _ rfl
             rintro _ rfl
             rintro _ rfl
             rintro v553 h554
             replace h554 : Vr.vd vB _ _ _ _ := h554
             obtain rfl := h554
             rintro _ rfl
             rintro _ rfl
             rintro _ rfl
             rintro _ rfl
             rintro _ rfl
             rintro v556 h557
             replace h557 : Vr.vd (vI .i64) _ _ _ _ := h557
             obtain ⟨rfl, r_y558⟩ := h557
             rintro _ rfl
             have p559 : Step (ks [(some b41, Obj.cells [(Value.slice a_a_volumes a.volumes.length c_a_volumes), (Value.slice a_g51 v_3.length c_g51), (Value.slice a_g164 v_5.length c_g164), (Value.slice none 0 0), (Value.slice none 0 0), (Value.slice none 0 0), (Value.slice none 0 0), (Value.slice none 0 0)].toArray 31), (some b1, Obj.cells [(Value.slice a_a_volumes a.volumes.length c_a_volumes), (Value.slice a_a_sectors a.sectors.length c_a_sectors), (Value.slice a_a_configs a.configs.length c_a_configs), (Value.slice a_a_segments a.segments.length c_a_segments), (Value.slice a_a_routes a.routes.length c_a_routes), (Value.slice a_a_airports a.airports.length c_a_airports), (Value.slice a_a_classes a.classes.length c_a_classes), (Value.slice a_a_rules a.rules.length c_a_rules)].toArray 31)] O) w323 (ks [(some b41, Obj.cells [(Value.slice a_a_volumes a.volumes.length c_a_volumes), (Value.slice a_g51 v_3.length c_g51), (Value.slice a_g164 v_5.length c_g164), (Value.slice none 0 0), (Value.slice none 0 0), (Value.slice none 0 0), (Value.slice none 0 0), (Value.slice none 0 0)].toArray 31), (some b1, Obj.cells [(Value.slice a_a_volumes a.volumes.length c_a_volumes), (Value.slice a_a_sectors a.sectors.length c_a_sectors), (Value.slice a_a_configs a.configs.length c_a_configs), (Value.slice a_a_segments a.segments.length c_a_segments), (Value.slice a_a_routes a.routes.length c_a_routes), (Value.slice a_a_airports a.airports.length c_a_airports), (Value.slice a_a_classes a.classes.length c_a_classes), (Value.slice a_a_rules a.rules.length c_a_rules)].toArray 31)] O) w540 := hst544.trans p545
             replace f_a_volumes := f_a_volumes.step p559; replace f_a_sectors := f_a_sectors.step p559; replace f_a_configs := f_a_configs.step p559; replace f_a_segments := f_a_segments.step p559; replace f_a_routes := f_a_routes.step p559; replace f_a_airports := f_a_airports.step p559; replace f_a_classes := f_a_classes.step p559; replace f_a_rules := f_a_rules.step p559; replace f_y286 := f_y286.step p559; replace f288 := f288.step p559; replace f291 := f291.step p559; replace f_y305 := f_y305.step p559; replace ch64 := ch64.trans p559; replace ch177 := ch177.trans p559; replace ch344 := ch344.trans p559; clear p559 hs326
             refine Rg_opx rfl (asB_ne rfl rfl) rfl ?_
             refine Rg_op rfl (op_pick_f (v := (Value.bool false)) rfl rfl ?_)
             refine Rg_op rfl (op_assign (v := (Value.bool false)) rfl ?_)
             refine Rg_nil ?_
             exact hK338 _ _ ⟨false, _, rfl, ⟨(by repeat (first | with_reducible exact Out.refl _ _ | refine Out.upd ?_ rfl | refine Out.updL ?_ rfl | refine Out.mix' ?_ rfl | exact Out.refl _ _)), rfl, rfl, trivial⟩, ch344, hs546, hm⟩
           ·
            replace hm := bif_f hm hg443
            refine Dw_skip (fun _ _ _ ht => wanted_x rfl (ht 117 rfl) rfl) ?_
            refine Dw_skip (fun _ _ _ ht => wanted_x rfl (ht 117 rfl) rfl) ?_
            refine Dw_skip (fun _ _ _ ht => wanted_x rfl (ht 117 rfl) rfl) ?_
            refine Dw_eq (Value.bool false) (fun ρ560 w561 g hle hi ht => ?_) ?_
            ·
             obtain ⟨-, hst, -⟩ := hle
             refine StepOp_plain (op_pick_f (v := (Value.bool false)) (ht 117 rfl) rfl ?_)
             exact Goes.same hi rfl
            refine Dw_eq (Value.bool false) (fun ρ563 w564 g hle hi ht => ?_) ?_
            ·
             obtain ⟨-, hst, -⟩ := hle
             refine StepOp_plain (op_move (v := (Value.bool false)) (ht 121 rfl) ?_)
             exact Goes.same hi rfl
            refine Dw_skip (fun _ _ _ ht => wanted_x rfl (ht 122 rfl) rfl) ?_
            refine Dw_skip (fun _ _ _ ht => wanted_x rfl (ht 122 rfl) rfl) ?_
            refine Dw_skip (fun _ _ _ ht => wanted_x rfl (ht 122 rfl) rfl) ?_
            refine Dw_eq (Value.bool false) (fun ρ566 w567 g hle hi ht => ?_) ?_
            ·
             obtain ⟨-, hst, -⟩ := hle
             refine StepOp_plain (op_pick_f (v := (Value.bool false)) (ht 122 rfl) rfl ?_)
             exact Goes.same hi rfl
            refine Dw_eq (Value.bool false) (fun ρ569 w570 g hle hi ht => ?_) ?_
            ·
             obtain ⟨-, hst, -⟩ := hle
             refine StepOp_plain (op_move (v := (Value.bool false)) (ht 126 rfl) ?_)
             exact Goes.same hi rfl
            refine Dw_skip (fun _ _ _ ht => wanted_x rfl (ht 127 rfl) rfl) ?_
            refine Dw_skip (fun _ _ _ ht => wanted_x rfl (ht 127 rfl) rfl) ?_
            refine Dw_nil fun w576 g577 hl578 hi579 => ?_
            obtain ⟨-, hst580, -⟩ := hl578
            obtain ⟨hs582, p581⟩ := Step.nx hi579
            rintro _ rfl
            rintro _ rfl
            rintro _ rfl
            rintro _ rfl
            rintro _ rfl
            rintro _ rfl
            rintro _ rfl
            rintro _ rfl
            rintro _ rfl
            rintro _ rfl
            rintro _ rfl
            rintro _ rfl
            rintro _ rfl
            rintro _ rfl
            rintro v583 h584
            replace h584 : Vr.vd vB _ _ _ _ := h584
            obtain rfl := h584
            rintro _ rfl
            rintro _ rfl
            rintro _ rfl
            rintro _ rfl
            rintro _ rfl
            rintro v586 h587
            replace h587 : Vr.vd vB _ _ _ _ := h587
            obtain rfl := h587
            rintro _ rfl
            rintro _ rfl
            rintro _ rfl
            rintro v589 h590
            replace h590 : Vr.vd vB _ _ _ _ := h590
            obtain rfl := h590
            rintro _ rfl
            rintro _ rfl
            rintro _ rfl
            rintro _ rfl
            rintro _ rfl
            rintro v592 h593
            replace h593 : Vr.vd (vI .i64) _ _ _ _ := h593
            obtain ⟨rfl, r_y594⟩ := h593
            rintro _ rfl
            have p595 : Step (ks [(some b41, Obj.cells [(Value.slice a_a_volumes a.volumes.length c_a_volumes), (Value.slice a_g51 v_3.length c_g51), (Value.slice a_g164 v_5.length c_g164), (Value.slice none 0 0), (Value.slice none 0 0), (Value.slice none 0 0), (Value.slice none 0 0), (Value.slice none 0 0)].toArray 31), (some b1, Obj.cells [(Value.slice a_a_volumes a.volumes.length c_a_volumes), (Value.slice a_a_sectors a.sectors.length c_a_sectors), (Value.slice a_a_configs a.configs.length c_a_configs), (Value.slice a_a_segments a.segments.length c_a_segments), (Value.slice a_a_routes a.routes.length c_a_routes), (Value.slice a_a_airports a.airports.length c_a_airports), (Value.slice a_a_classes a.classes.length c_a_classes), (Value.slice a_a_rules a.rules.length c_a_rules)].toArray 31)] O) w323 (ks [(some b41, Obj.cells [(Value.slice a_a_volumes a.volumes.length c_a_volumes), (Value.slice a_g51 v_3.length c_g51), (Value.slice a_g164 v_5.length c_g164), (Value.slice none 0 0), (Value.slice none 0 0), (Value.slice none 0 0), (Value.slice none 0 0), (Value.slice none 0 0)].toArray 31), (some b1, Obj.cells [(Value.slice a_a_volumes a.volumes.length c_a_volumes), (Value.slice a_a_sectors a.sectors.length c_a_sectors), (Value.slice a_a_configs a.configs.length c_a_configs), (Value.slice a_a_segments a.segments.length c_a_segments), (Value.slice a_a_routes a.routes.length c_a_routes), (Value.slice a_a_airports a.airports.length c_a_airports), (Value.slice a_a_classes a.classes.length c_a_classes), (Value.slice a_a_rules a.rules.length c_a_rules)].toArray 31)] O) w576 := hst580.trans p581
            replace f_a_volumes := f_a_volumes.step p595; replace f_a_sectors := f_a_sectors.step p595; replace f_a_configs := f_a_configs.step p595; replace f_a_segments := f_a_segments.step p595; replace f_a_routes := f_a_routes.step p595; replace f_a_airports := f_a_airports.step p595; replace f_a_classes := f_a_classes.step p595; replace f_a_rules := f_a_rules.step p595; replace f_y286 := f_y286.step p595; replace f288 := f288.step p595; replace f291 := f291.step p595; replace f_y305 := f_y305.step p595; replace ch64 := ch64.trans p595; replace ch177 := ch177.trans p595; replace ch344 := ch344.trans p595; clear p595 hs326
            refine Rg_opx rfl (asB_ne rfl rfl) rfl ?_
            refine Rg_op rfl (op_pick_f (v := (Value.bool false)) rfl rfl ?_)
            refine Rg_op rfl (op_assign (v := (Value.bool false)) rfl ?_)
            refine Rg_nil ?_
            exact hK338 _ _ ⟨false, _, rfl, ⟨(by repeat (first | with_reducible exact Out.refl _ _ | refine Out.upd ?_ rfl | refine Out.updL ?_ rfl | refine Out.mix' ?_ rfl | exact Out.refl _ _)), rfl, rfl, trivial⟩, ch344, hs582, hm⟩
          ·
           replace hm := bif_f hm hg418
           refine Dw_skip (fun _ _ _ ht => wanted_x rfl (ht 112 rfl) rfl) ?_
           refine Dw_skip (fun _ _ _ ht => wanted_x rfl (ht 112 rfl) rfl) ?_
           refine Dw_skip (fun _ _ _ ht => wanted_x rfl (ht 112 rfl) rfl) ?_
           refine Dw_eq (Value.bool false) (fun ρ596 w597 g hle hi ht => ?_) ?_
           ·
            obtain ⟨-, hst, -⟩ := hle
            refine StepOp_plain (op_pick_f (v := (Value.bool false)) (ht 112 rfl) rfl ?_)
            exact Goes.same hi rfl
           refine Dw_eq (Value.bool false) (fun ρ599 w600 g hle hi ht => ?_) ?_
           ·
            obtain ⟨-, hst, -⟩ := hle
            refine StepOp_plain (op_move (v := (Value.bool false)) (ht 116 rfl) ?_)
            exact Goes.same hi rfl
           refine Dw_skip (fun _ _ _ ht => wanted_x rfl (ht 117 rfl) rfl) ?_
           refine Dw_skip (fun _ _ _ ht => wanted_x rfl (ht 117 rfl) rfl) ?_
           refine Dw_skip (fun _ _ _ ht => wanted_x rfl (ht 117 rfl) rfl) ?_
           refine Dw_eq (Value.bool false) (fun ρ602 w603 g hle hi ht => ?_) ?_
           ·
            obtain ⟨-, hst, -⟩ := hle
            refine StepOp_plain (op_pick_f (v := (Value.bool false)) (ht 117 rfl) rfl ?_)
            exact Goes.same hi rfl
           refine Dw_eq (Value.bool false) (fun ρ605 w606 g hle hi ht => ?_) ?_
           ·
            obtain ⟨-, hst, -⟩ := hle
            refine StepOp_plain (op_move (v := (Value.bool false)) (ht 121 rfl) ?_)
            exact Goes.same hi rfl
           refine Dw_skip (fun _ _ _ ht => wanted_x rfl (ht 122 rfl) rfl) ?_
           refine Dw_skip (fun _ _ _ ht => wanted_x rfl (ht 122 rfl) rfl) ?_
           refine Dw_skip (fun _ _ _ ht => wanted_x rfl (ht 122 rfl) rfl) ?_
           refine Dw_eq (Value.bool false) (fun ρ608 w609 g hle hi ht => ?_) ?_
           ·
            obtain ⟨-, hst, -⟩ := hle
            refine StepOp_plain (op_pick_f (v := (Value.bool false)) (ht 122 rfl) rfl ?_)
            exact Goes.same hi rfl
           refine Dw_eq (Value.bool false) (fun ρ611 w612 g hle hi ht => ?_) ?_
           ·
            obtain ⟨-, hst, -⟩ := hle
            refine StepOp_plain (op_move (v := (Value.bool false)) (ht 126 rfl) ?_)
            exact Goes.same hi rfl
           refine Dw_skip (fun _ _ _ ht => wanted_x rfl (ht 127 rfl) rfl) ?_
           refine Dw_skip (fun _ _ _ ht => wanted_x rfl (ht 127 rfl) rfl) ?_
           refine Dw_nil fun w618 g619 hl620 hi621 => ?_
           obtain ⟨-, hst622, -⟩ := hl620
           obtain ⟨hs624, p623⟩ := Step.nx hi621
           rintro _ rfl
           rintro _ rfl
           rintro _ rfl
           rintro _ rfl
           rintro _ rfl
           rintro _ rfl
           rintro _ rfl
           rintro _ rfl
           rintro _ rfl
           rintro _ rfl
           rintro _ rfl
           rintro _ rfl
           rintro _ rfl
           rintro _ rfl
           rintro _ rfl
           rintro _ rfl
           rintro _ rfl
           rintro _ rfl
           rintro _ rfl
           rintro _ rfl
           rintro v625 h626
           replace h626 : Vr.vd vB _ _ _ _ := h626
           obtain rfl := h626
           rintro _ rfl
           rintro _ rfl
           rintro _ rfl
           rintro v628 h629
           replace h629 : Vr.vd vB _ _ _ _ := h629
           obtain rfl := h629
           rintro _ rfl
           rintro _ rfl
           rintro _ rfl
           rintro _ rfl
           rintro _ rfl
           rintro v631 h632
           replace h632 : Vr.vd (vI .i64) _ _ _ _ := h632
           obtain ⟨rfl, r_y633⟩ := h632
           rintro _ rfl
           have p634 : Step (ks [(some b41, Obj.cells [(Value.slice a_a_volumes a.volumes.length c_a_volumes), (Value.slice a_g51 v_3.length c_g51), (Value.slice a_g164 v_5.length c_g164), (Value.slice none 0 0), (Value.slice none 0 0), (Value.slice none 0 0), (Value.slice none 0 0), (Value.slice none 0 0)].toArray 31), (some b1, Obj.cells [(Value.slice a_a_volumes a.volumes.length c_a_volumes), (Value.slice a_a_sectors a.sectors.length c_a_sectors), (Value.slice a_a_configs a.configs.length c_a_configs), (Value.slice a_a_segments a.segments.length c_a_segments), (Value.slice a_a_routes a.routes.length c_a_routes), (Value.slice a_a_airports a.airports.length c_a_airports), (Value.slice a_a_classes a.classes.length c_a_classes), (Value.slice a_a_rules a.rules.length c_a_rules)].toArray 31)] O) w323 (ks [(some b41, Obj.cells [(Value.slice a_a_volumes a.volumes.length c_a_volumes), (Value.slice a_g51 v_3.length c_g51), (Value.slice a_g164 v_5.length c_g164), (Value.slice none 0 0), (Value.slice none 0 0), (Value.slice none 0 0), (Value.slice none 0 0), (Value.slice none 0 0)].toArray 31), (some b1, Obj.cells [(Value.slice a_a_volumes a.volumes.length c_a_volumes), (Value.slice a_a_sectors a.sectors.length c_a_sectors), (Value.slice a_a_configs a.configs.length c_a_configs), (Value.slice a_a_segments a.segments.length c_a_segments), (Value.slice a_a_routes a.routes.length c_a_routes), (Value.slice a_a_airports a.airports.length c_a_airports), (Value.slice a_a_classes a.classes.length c_a_classes), (Value.slice a_a_rules a.rules.length c_a_rules)].toArray 31)] O) w618 := hst622.trans p623
           replace f_a_volumes := f_a_volumes.step p634; replace f_a_sectors := f_a_sectors.step p634; replace f_a_configs := f_a_configs.step p634; replace f_a_segments := f_a_segments.step p634; replace f_a_routes := f_a_routes.step p634; replace f_a_airports := f_a_airports.step p634; replace f_a_classes := f_a_classes.step p634; replace f_a_rules := f_a_rules.step p634; replace f_y286 := f_y286.step p634; replace f288 := f288.step p634; replace f291 := f291.step p634; replace f_y305 := f_y305.step p634; replace ch64 := ch64.trans p634; replace ch177 := ch177.trans p634; replace ch344 := ch344.trans p634; clear p634 hs326
           refine Rg_opx rfl (asB_ne rfl rfl) rfl ?_
           refine Rg_op rfl (op_pick_f (v := (Value.bool false)) rfl rfl ?_)
           refine Rg_op rfl (op_assign (v := (Value.bool false)) rfl ?_)
           refine Rg_nil ?_
           exact hK338 _ _ ⟨false, _, rfl, ⟨(by repeat (first | with_reducible exact Out.refl _ _ | refine Out.upd ?_ rfl | refine Out.updL ?_ rfl | refine Out.mix' ?_ rfl | exact Out.refl _ _)), rfl, rfl, trivial⟩, ch344, hs624, hm⟩
         ·
          replace hm := bif_f hm hg366
          refine Dw_skip (fun _ _ _ ht => wanted_x rfl (ht 101 rfl) rfl) ?_
          refine Dw_skip (fun _ _ _ ht => wanted_x rfl (ht 101 rfl) rfl) ?_
          refine Dw_skip (fun _ _ _ ht => wanted_x rfl (ht 101 rfl) rfl) ?_
          refine Dw_skip (fun _ _ _ ht => wanted_x rfl (ht 101 rfl) rfl) ?_
          refine Dw_skip (fun _ _ _ ht => wanted_x rfl (ht 101 rfl) rfl) ?_
          refine Dw_skip (fun _ _ _ ht => wanted_x rfl (ht 101 rfl) rfl) ?_
          refine Dw_skip (fun _ _ _ ht => wanted_x rfl (ht 101 rfl) rfl) ?_
          refine Dw_skip (fun _ _ _ ht => wanted_x rfl (ht 101 rfl) rfl) ?_
          refine Dw_skip (fun _ _ _ ht => wanted_x rfl (ht 101 rfl) rfl) ?_
          refine Dw_eq (Value.bool false) (fun ρ635 w636 g hle hi ht => ?_) ?_
          ·
           obtain ⟨-, hst, -⟩ := hle
           refine StepOp_plain (op_pick_f (v := (Value.bool false)) (ht 101 rfl) rfl ?_)
           exact Goes.same hi rfl
          refine Dw_eq (Value.bool false) (fun ρ638 w639 g hle hi ht => ?_) ?_
          ·
           obtain ⟨-, hst, -⟩ := hle
           refine StepOp_plain (op_move (v := (Value.bool false)) (ht 111 rfl) ?_)
           exact Goes.same hi rfl
          refine Dw_skip (fun _ _ _ ht => wanted_x rfl (ht 112 rfl) rfl) ?_
          refine Dw_skip (fun _ _ _ ht => wanted_x rfl (ht 112 rfl) rfl) ?_
          refine Dw_skip (fun _ _ _ ht => wanted_x rfl (ht 112 rfl) rfl) ?_
          refine Dw_eq (Value.bool false) (fun ρ641 w642 g hle hi ht => ?_) ?_
          ·
           obtain ⟨-, hst, -⟩ := hle
           refine StepOp_plain (op_pick_f (v := (Value.bool false)) (ht 112 rfl) rfl ?_)
           exact Goes.same hi rfl
          refine Dw_eq (Value.bool false) (fun ρ644 w645 g hle hi ht => ?_) ?_
          ·
           obtain ⟨-, hst, -⟩ := hle
           refine StepOp_plain (op_move (v := (Value.bool false)) (ht 116 rfl) ?_)
           exact Goes.same hi rfl
          refine Dw_skip (fun _ _ _ ht => wanted_x rfl (ht 117 rfl) rfl) ?_
          refine Dw_skip (fun _ _ _ ht => wanted_x rfl (ht 117 rfl) rfl) ?_
          refine Dw_skip (fun _ _ _ ht => wanted_x rfl (ht 117 rfl) rfl) ?_
          refine Dw_eq (Value.bool false) (fun ρ647 w648 g hle hi ht => ?_) ?_
          ·
           obtain ⟨-, hst, -⟩ := hle
           refine StepOp_plain (op_pick_f (v := (Value.bool false)) (ht 117 rfl) rfl ?_)
           exact Goes.same hi rfl
          refine Dw_eq (Value.bool false) (fun ρ650 w651 g hle hi ht => ?_) ?_
          ·
           obtain ⟨-, hst, -⟩ := hle
           refine StepOp_plain (op_move (v := (Value.bool false)) (ht 121 rfl) ?_)
           exact Goes.same hi rfl
          refine Dw_skip (fun _ _ _ ht => wanted_x rfl (ht 122 rfl) rfl) ?_
          refine Dw_skip (fun _ _ _ ht => wanted_x rfl (ht 122 rfl) rfl) ?_
          refine Dw_skip (fun _ _ _ ht => wanted_x rfl (ht 122 rfl) rfl) ?_
          refine Dw_eq (Value.bool false) (fun ρ653 w654 g hle hi ht => ?_) ?_
          ·
           obtain ⟨-, hst, -⟩ := hle
           refine StepOp_plain (op_pick_f (v := (Value.bool false)) (ht 122 rfl) rfl ?_)
           exact Goes.same hi rfl
          refine Dw_eq (Value.bool false) (fun ρ656 w657 g hle hi ht => ?_) ?_
          ·
           obtain ⟨-, hst, -⟩ := hle
           refine StepOp_plain (op_move (v := (Value.bool false)) (ht 126 rfl) ?_)
           exact Goes.same hi rfl
          refine Dw_skip (fun _ _ _ ht => wanted_x rfl (ht 127 rfl) rfl) ?_
          refine Dw_skip (fun _ _ _ ht => wanted_x rfl (ht 127 rfl) rfl) ?_
          refine Dw_nil fun w663 g664 hl665 hi666 => ?_
          obtain ⟨-, hst667, -⟩ := hl665
          obtain ⟨hs669, p668⟩ := Step.nx hi666
          rintro _ rfl
          rintro _ rfl
          rintro _ rfl
          rintro _ rfl
          rintro _ rfl
          rintro _ rfl
          rintro _ rfl
          rintro _ rfl
          rintro _ rfl
          rintro _ rfl
          rintro _ rfl
          rintro _ rfl
          rintro _ rfl
          rintro _ rfl
          rintro _ rfl
          rintro _ rfl
          rintro _ rfl
          rintro _ rfl
          rintro _ rfl
          rintro _ rfl
          rintro _ rfl
          rintro _ rfl
          rintro _ rfl
          rintro _ rfl
          rintro _ rfl
          rintro _ rfl
          rintro _ rfl
          rintro _ rfl
          rintro _ rfl
          rintro _ rfl
          rintro v670 h671
          replace h671 : Vr.vd (vI .i64) _ _ _ _ := h671
          obtain ⟨rfl, r_y672⟩ := h671
          rintro _ rfl
          have p673 : Step (ks [(some b41, Obj.cells [(Value.slice a_a_volumes a.volumes.length c_a_volumes), (Value.slice a_g51 v_3.length c_g51), (Value.slice a_g164 v_5.length c_g164), (Value.slice none 0 0), (Value.slice none 0 0), (Value.slice none 0 0), (Value.slice none 0 0), (Value.slice none 0 0)].toArray 31), (some b1, Obj.cells [(Value.slice a_a_volumes a.volumes.length c_a_volumes), (Value.slice a_a_sectors a.sectors.length c_a_sectors), (Value.slice a_a_configs a.configs.length c_a_configs), (Value.slice a_a_segments a.segments.length c_a_segments), (Value.slice a_a_routes a.routes.length c_a_routes), (Value.slice a_a_airports a.airports.length c_a_airports), (Value.slice a_a_classes a.classes.length c_a_classes), (Value.slice a_a_rules a.rules.length c_a_rules)].toArray 31)] O) w323 (ks [(some b41, Obj.cells [(Value.slice a_a_volumes a.volumes.length c_a_volumes), (Value.slice a_g51 v_3.length c_g51), (Value.slice a_g164 v_5.length c_g164), (Value.slice none 0 0), (Value.slice none 0 0), (Value.slice none 0 0), (Value.slice none 0 0), (Value.slice none 0 0)].toArray 31), (some b1, Obj.cells [(Value.slice a_a_volumes a.volumes.length c_a_volumes), (Value.slice a_a_sectors a.sectors.length c_a_sectors), (Value.slice a_a_configs a.configs.length c_a_configs), (Value.slice a_a_segments a.segments.length c_a_segments), (Value.slice a_a_routes a.routes.length c_a_routes), (Value.slice a_a_airports a.airports.length c_a_airports), (Value.slice a_a_classes a.classes.length c_a_classes), (Value.slice a_a_rules a.rules.length c_a_rules)].toArray 31)] O) w663 := hst667.trans p668
          replace f_a_volumes := f_a_volumes.step p673; replace f_a_sectors := f_a_sectors.step p673; replace f_a_configs := f_a_configs.step p673; replace f_a_segments := f_a_segments.step p673; replace f_a_routes := f_a_routes.step p673; replace f_a_airports := f_a_airports.step p673; replace f_a_classes := f_a_classes.step p673; replace f_a_rules := f_a_rules.step p673; replace f_y286 := f_y286.step p673; replace f288 := f288.step p673; replace f291 := f291.step p673; replace f_y305 := f_y305.step p673; replace ch64 := ch64.trans p673; replace ch177 := ch177.trans p673; replace ch344 := ch344.trans p673; clear p673 hs326
          refine Rg_opx rfl (asB_ne rfl rfl) rfl ?_
          refine Rg_op rfl (op_pick_f (v := (Value.bool false)) rfl rfl ?_)
          refine Rg_op rfl (op_assign (v := (Value.bool false)) rfl ?_)
          refine Rg_nil ?_
          exact hK338 _ _ ⟨false, _, rfl, ⟨(by repeat (first | with_reducible exact Out.refl _ _ | refine Out.upd ?_ rfl | refine Out.updL ?_ rfl | refine Out.mix' ?_ rfl | exact Out.refl _ _)), rfl, rfl, trivial⟩, ch344, hs669, hm⟩
  ·
   intro K21 hK21
   have ch674 := Step.refl (ks [(some b1, Obj.cells [(Value.slice a_a_volumes a.volumes.length c_a_volumes), (Value.slice a_a_sectors a.sectors.length c_a_sectors), (Value.slice a_a_configs a.configs.length c_a_configs), (Value.slice a_a_segments a.segments.length c_a_segments), (Value.slice a_a_routes a.routes.length c_a_routes), (Value.slice a_a_airports a.airports.length c_a_airports), (Value.slice a_a_classes a.classes.length c_a_classes), (Value.slice a_a_rules a.rules.length c_a_rules)].toArray 31)] O) w8
   refine Wp_region ?_
   refine Rg_op rfl (op_loadA (cs := [(Value.slice a_a_volumes a.volumes.length c_a_volumes), (Value.slice a_a_sectors a.sectors.length c_a_sectors), (Value.slice a_a_configs a.configs.length c_a_configs), (Value.slice a_a_segments a.segments.length c_a_segments), (Value.slice a_a_routes a.routes.length c_a_routes), (Value.slice a_a_airports a.airports.length c_a_airports), (Value.slice a_a_classes a.classes.length c_a_classes), (Value.slice a_a_rules a.rules.length c_a_rules)]) (vs := [(Value.slice a_a_volumes a.volumes.length c_a_volumes), (Value.slice a_a_sectors a.sectors.length c_a_sectors), (Value.slice a_a_configs a.configs.length c_a_configs), (Value.slice a_a_segments a.segments.length c_a_segments), (Value.slice a_a_routes a.routes.length c_a_routes), (Value.slice a_a_airports a.airports.length c_a_airports), (Value.slice a_a_classes a.classes.length c_a_classes), (Value.slice a_a_rules a.rules.length c_a_rules)]) (i := 0) ty31 hs11 rfl rfl rfl rfl ?_)
   replace hm := bd hm; obtain ⟨few_1, hv675, hm⟩ := hm
   refine Rg_op rfl (op_call Try.call12 (c12_overflightref10_Few (a := a) hs11.ltw f_a_volumes f_a_sectors f_a_configs f_a_segments f_a_routes f_a_airports f_a_classes f_a_rules hv675) rfl ?_)
   rintro v676 w677 ⟨hx678, h679⟩
   have hs680 := hs11.call hx678
   have p681 := Step.ext (O := ks [(some b1, Obj.cells [(Value.slice a_a_volumes a.volumes.length c_a_volumes), (Value.slice a_a_sectors a.sectors.length c_a_sectors), (Value.slice a_a_configs a.configs.length c_a_configs), (Value.slice a_a_segments a.segments.length c_a_segments), (Value.slice a_a_routes a.routes.length c_a_routes), (Value.slice a_a_airports a.airports.length c_a_airports), (Value.slice a_a_classes a.classes.length c_a_classes), (Value.slice a_a_rules a.rules.length c_a_rules)].toArray 31)] O) hx678
   clear hx678
   replace f_a_volumes := f_a_volumes.step p681; replace f_a_sectors := f_a_sectors.step p681; replace f_a_configs := f_a_configs.step p681; replace f_a_segments := f_a_segments.step p681; replace f_a_routes := f_a_routes.step p681; replace f_a_airports := f_a_airports.step p681; replace f_a_classes := f_a_classes.step p681; replace f_a_rules := f_a_rules.step p681; replace ch674 := ch674.trans p681; clear p681 hs11
   obtain rfl := h679
   refine Rg_op rfl (op_not rfl ?_)
   refine Rg_op rfl (op_move (v := (Value.bool (!few_1))) rfl ?_)
   refine Rg_case (fun hg683 => ?_) (fun hg683 => ?_)
   ·
    replace hm := bif_t hm hg683
    iterate 3 refine Rg_opx rfl (asB_ne rfl rfl) rfl ?_
    refine Rg_op rfl (op_pick_t (v := (Value.bool true)) rfl rfl ?_)
    refine Rg_nil ?_
    exact hK21 _ _ ⟨true, _, rfl, ⟨(by repeat (first | with_reducible exact Out.refl _ _ | refine Out.upd ?_ rfl | refine Out.updL ?_ rfl | refine Out.mix' ?_ rfl | exact Out.refl _ _)), rfl, rfl, trivial⟩, ch674, hs680, hm⟩
   ·
    replace hm := bif_f hm hg683
    refine Rg_opg rfl rfl rfl (op_loadA (cs := [(Value.slice a_a_volumes a.volumes.length c_a_volumes), (Value.slice a_a_sectors a.sectors.length c_a_sectors), (Value.slice a_a_configs a.configs.length c_a_configs), (Value.slice a_a_segments a.segments.length c_a_segments), (Value.slice a_a_routes a.routes.length c_a_routes), (Value.slice a_a_airports a.airports.length c_a_airports), (Value.slice a_a_classes a.classes.length c_a_classes), (Value.slice a_a_rules a.rules.length c_a_rules)]) (vs := [(Value.slice a_a_volumes a.volumes.length c_a_volumes), (Value.slice a_a_sectors a.sectors.length c_a_sectors), (Value.slice a_a_configs a.configs.length c_a_configs), (Value.slice a_a_segments a.segments.length c_a_segments), (Value.slice a_a_routes a.routes.length c_a_routes), (Value.slice a_a_airports a.airports.length c_a_airports), (Value.slice a_a_classes a.classes.length c_a_classes), (Value.slice a_a_rules a.rules.length c_a_rules)]) (i := 0) ty31 hs680 rfl rfl rfl rfl ?_)
    replace hm := bd hm; obtain ⟨check_2, hv684, hm⟩ := hm
    refine Rg_opg rfl rfl rfl (op_call Try.call15 (c15_configs_Check (a := a) hs680.ltw f_a_volumes f_a_sectors f_a_configs f_a_segments f_a_routes f_a_airports f_a_classes f_a_rules hv684) rfl ?_)
    rintro v685 w686 ⟨hx687, h688⟩
    have hs689 := hs680.call hx687
    have p690 := Step.ext (O := ks [(some b1, Obj.cells [(Value.slice a_a_volumes a.volumes.length c_a_volumes), (Value.slice a_a_sectors a.sectors.length c_a_sectors), (Value.slice a_a_configs a.configs.length c_a_configs), (Value.slice a_a_segments a.segments.length c_a_segments), (Value.slice a_a_routes a.routes.length c_a_routes), (Value.slice a_a_airports a.airports.length c_a_airports), (Value.slice a_a_classes a.classes.length c_a_classes), (Value.slice a_a_rules a.rules.length c_a_rules)].toArray 31)] O) hx687
    clear hx687
    replace f_a_volumes := f_a_volumes.step p690; replace f_a_sectors := f_a_sectors.step p690; replace f_a_configs := f_a_configs.step p690; replace f_a_segments := f_a_segments.step p690; replace f_a_routes := f_a_routes.step p690; replace f_a_airports := f_a_airports.step p690; replace f_a_classes := f_a_classes.step p690; replace f_a_rules := f_a_rules.step p690; replace ch674 := ch674.trans p690; clear p690 hs680
    obtain ⟨rfl, r_y691⟩ := h688
    refine Rg_opg rfl rfl rfl (op_neq rfl rfl ?_)
    refine Rg_op rfl (op_pick_f (v := (Value.bool (decide (check_2 ≠ 0)))) rfl rfl ?_)
    refine Rg_nil ?_
    exact hK21 _ _ ⟨(decide (check_2 ≠ 0)), _, rfl, ⟨(by repeat (first | with_reducible exact Out.refl _ _ | refine Out.upd ?_ rfl | refine Out.updL ?_ rfl | refine Out.mix' ?_ rfl | exact Out.refl _ _)), rfl, rfl, trivial⟩, ch674, hs689, hm⟩

end Go.Fx



/- What the models of functions compute: loops over lists, checks, meetings. No program in sight. -/
set_option linter.unusedSimpArgs false
set_option linter.unusedVariables false
namespace Go.Fx
open Go Go.RowKit

section
variable {R α σ : Type}
@[simp] theorem jn_eq {κ : Type _} (k : κ) (f : κ → Option R) : jn k f = f k := rfl
theorem ck_eq {c : Prop} [Decidable c] {m : Option R} (h : c) : ck c m = m := if_pos h
@[simp] theorem ck_True {m : Option R} : ck True m = m := if_pos trivial
theorem wrapN {i : Nat} (h : i < 9223372036854775808) : IntKind.i64.wrap (i : Int) = (i : Int) := wrap_i64 (by omega) (by omega)
theorem wrapS {i : Nat} (h : i + 1 < 9223372036854775808) : IntKind.i64.wrap ((i : Int) + 1) = (i : Int) + 1 := wrap_i64 (by omega) (by omega)
/-- a loop that goes up an index over a list: L fuel index state -/
theorem up_list {L : Nat → Int → σ → Option R} (I : Nat → σ → Prop) (F : Nat → List α → σ → Option R) (l : List α) (hl : l.length < 9223372036854775807)
    (hE : ∀ n s, I l.length s → L (n + 1) (l.length : Nat) s = F l.length [] s)
    (hS : ∀ n (i : Nat) s x t, i < l.length → l[i]? = some x → IntKind.i64.wrap ((i : Int) + 1) = (i : Int) + 1 → I i s →
      (∀ s, I (i + 1) s → L n ((i : Int) + 1) s = F (i + 1) t s) → L (n + 1) (i : Int) s = F i (x :: t) s) :
    ∀ (fuel : Nat) s, l.length < fuel → I 0 s → L fuel 0 s = F 0 l s := by
  have main : ∀ (t : List α) (i fuel : Nat) s, l.drop i = t → i ≤ l.length → l.length - i < fuel → I i s → L fuel (i : Int) s = F i t s := by
    intro t
    induction t with
    | nil =>
      intro i fuel s hd hi hf hI
      have : i = l.length := by have := congrArg List.length hd; simp at this; omega
      subst this
      obtain ⟨n, rfl⟩ : ∃ n, fuel = n + 1 := ⟨fuel - 1, by omega⟩
      exact hE n s hI
    | cons x t ih =>
      intro i fuel s hd hi hf hI
      have hlt : i < l.length := by have := congrArg List.length hd; simp at this; omega
      obtain ⟨n, rfl⟩ : ∃ n, fuel = n + 1 := ⟨fuel - 1, by omega⟩
      have hx : l[i]? = some x := by rw [← List.head?_drop, hd]; rfl
      refine hS n i s x t hlt hx (wrapS (by omega)) hI fun s' hI' => (ih (i + 1) n s' ?_ (by omega) (by omega) hI')
      rw [← List.drop_drop, hd]; rfl
  intro fuel s hf hI
  exact main l 0 fuel s rfl (by omega) (by omega) hI

theorem getD_of {l : List α} {i : Nat} {x d : α} (h : l[i]? = some x) : l.getD i d = x := by simp [List.getD, h]

/-- a loop that goes up an index over a list, no state -/
theorem up_list0 {B : (Int → Option R) → Int → Option R} (F : List α → Option R) (l : List α) (hl : l.length < 9223372036854775807)
    (hE : ∀ sf, B sf (l.length : Nat) = F [])
    (hS : ∀ sf (i : Nat) x t, i < l.length → l[i]? = some x → IntKind.i64.wrap ((i : Int) + 1) = (i : Int) + 1 →
      sf ((i : Int) + 1) = F t → B sf (i : Int) = F (x :: t))
    {fuel : Nat} (hf : l.length < fuel) : loop1 B fuel 0 = F l := by
  refine up_list (L := fun n i (_ : Unit) => loop1 B n i) (fun _ _ => True) (fun _ t _ => F t) l hl ?_ ?_ fuel () hf trivial
  · intro n _ _; show loop1 B (n + 1) _ = _; rw [loop1_succ]; exact hE _
  · intro n i _ x t h1 h2 h3 _ ih; show loop1 B (n + 1) _ = _; rw [loop1_succ]; exact hS _ i x t h1 h2 h3 (ih () trivial)
/-- index first, then a state -/
theorem up_listA {B : (Int → σ → Option R) → Int → σ → Option R} (I : Nat → σ → Prop) (F : Nat → List α → σ → Option R) (l : List α) (hl : l.length < 9223372036854775807)
    (hE : ∀ sf s, I l.length s → B sf (l.length : Nat) s = F l.length [] s)
    (hS : ∀ sf (i : Nat) s x t, i < l.length → l[i]? = some x → IntKind.i64.wrap ((i : Int) + 1) = (i : Int) + 1 → I i s →
      (∀ s, I (i + 1) s → sf ((i : Int) + 1) s = F (i + 1) t s) → B sf (i : Int) s = F i (x :: t) s)
    {fuel : Nat} {s : σ} (hf : l.length < fuel) (hI : I 0 s) : loop2 B fuel 0 s = F 0 l s := by
  refine up_list (L := fun n i s => loop2 B n i s) I F l hl ?_ ?_ fuel s hf hI
  · intro n s h; show loop2 B (n + 1) _ _ = _; rw [loop2_succ]; exact hE _ _ h
  · intro n i s x t h1 h2 h3 h4 ih; show loop2 B (n + 1) _ _ = _; rw [loop2_succ]; exact hS _ i s x t h1 h2 h3 h4 ih
/-- a state first, then the index -/
theorem up_listB {B : (σ → Int → Option R) → σ → Int → Option R} (I : Nat → σ → Prop) (F : Nat → List α → σ → Option R) (l : List α) (hl : l.length < 9223372036854775807)
    (hE : ∀ sf s, I l.length s → B sf s (l.length : Nat) = F l.length [] s)
    (hS : ∀ sf (i : Nat) s x t, i < l.length → l[i]? = some x → IntKind.i64.wrap ((i : Int) + 1) = (i : Int) + 1 → I i s →
      (∀ s, I (i + 1) s → sf s ((i : Int) + 1) = F (i + 1) t s) → B sf s (i : Int) = F i (x :: t) s)
    {fuel : Nat} {s : σ} (hf : l.length < fuel) (hI : I 0 s) : loop2 B fuel s 0 = F 0 l s := by
  refine up_list (L := fun n i s => loop2 B n s i) I F l hl ?_ ?_ fuel s hf hI
  · intro n s h; show loop2 B (n + 1) _ _ = _; rw [loop2_succ]; exact hE _ _ h
  · intro n i s x t h1 h2 h3 h4 ih; show loop2 B (n + 1) _ _ = _; rw [loop2_succ]; exact hS _ i s x t h1 h2 h3 h4 ih

/-- the same, where the answer needs the index -/
theorem up_listI {B : (Int → Option R) → Int → Option R} (F : Nat → List α → Option R) (l : List α) (hl : l.length < 9223372036854775807)
    (hE : ∀ sf, B sf (l.length : Nat) = F l.length [])
    (hS : ∀ sf (i : Nat) x t, i < l.length → l[i]? = some x → IntKind.i64.wrap ((i : Int) + 1) = (i : Int) + 1 →
      sf ((i : Int) + 1) = F (i + 1) t → B sf (i : Int) = F i (x :: t))
    {fuel : Nat} (hf : l.length < fuel) : loop1 B fuel 0 = F 0 l := by
  refine up_list (L := fun n i (_ : Unit) => loop1 B n i) (fun _ _ => True) (fun i t _ => F i t) l hl ?_ ?_ fuel () hf trivial
  · intro n _ _; show loop1 B (n + 1) _ = _; rw [loop1_succ]; exact hE _
  · intro n i _ x t h1 h2 h3 _ ih; show loop1 B (n + 1) _ = _; rw [loop1_succ]; exact hS _ i x t h1 h2 h3 (ih () trivial)
end
end Go.Fx



/- Chapter 10, no program in sight: a search in breadth, and what it finds. -/
set_option linter.unusedSimpArgs false
set_option linter.unusedVariables false
namespace Go.Fx
open Go Go.RowKit
/-- a look at neighbour i of at -/
def bstep (adj : Nat → Nat → Bool) (c : Nat) (s : List Int × List Nat) (i : Nat) : List Int × List Nat :=
  bif adj c i && decide (s.1.getD i default < 0) then (s.1.set i (s.1.getD c default + 1), s.2 ++ [i]) else s
def bfs (adj : Nat → Nat → Bool) (n : Nat) : Nat → List Int → List Nat → List Int
  | 0, d, _ => d
  | _ + 1, d, [] => d
  | f + 1, d, c :: q => bfs adj n f ((List.range n).foldl (bstep adj c) (d, q)).1 ((List.range n).foldl (bstep adj c) (d, q)).2
def vc (n : Nat) (d : List Int) : Nat := (List.range n).countP fun i => decide (0 ≤ d.getD i default)
/-- what is known while c's neighbours below m have been looked at -/
structure BJ (adj : Nat → Nat → Bool) (n to c m : Nat) (d : List Int) (q : List Nat) : Prop where
  len : d.length = n
  to0 : d.getD to default = 0
  tn : to < n
  ge : ∀ i < n, -1 ≤ d.getD i default
  bound : ∀ i < n, d.getD i default < vc n d
  qmem : ∀ x ∈ q, x < n ∧ 0 ≤ d.getD x default
  pred : ∀ i < n, 0 ≤ d.getD i default → i ≠ to → ∃ j < n, adj j i = true ∧ 0 ≤ d.getD j default ∧ d.getD i default = d.getD j default + 1
  cn : c < n
  cv : 0 ≤ d.getD c default
  cq : c ∉ q
  nd : q.Nodup
  near : ∀ i < n, 0 ≤ d.getD i default → i ∉ q → i ≠ c → ∀ j < n, adj i j = true → 0 ≤ d.getD j default ∧ d.getD j default ≤ d.getD i default + 1
  mid : ∀ j < m, adj c j = true → 0 ≤ d.getD j default
  low : ∀ x ∈ q, d.getD c default ≤ d.getD x default
  srt : q.Pairwise fun x y => d.getD x default ≤ d.getD y default
  top : ∀ x < n, d.getD x default ≤ d.getD c default + 1
structure BI (adj : Nat → Nat → Bool) (n to : Nat) (d : List Int) (q : List Nat) : Prop where
  len : d.length = n
  to0 : d.getD to default = 0
  tn : to < n
  ge : ∀ i < n, -1 ≤ d.getD i default
  bound : ∀ i < n, d.getD i default < vc n d
  qmem : ∀ x ∈ q, x < n ∧ 0 ≤ d.getD x default
  pred : ∀ i < n, 0 ≤ d.getD i default → i ≠ to → ∃ j < n, adj j i = true ∧ 0 ≤ d.getD j default ∧ d.getD i default = d.getD j default + 1
  nd : q.Nodup
  near : ∀ i < n, 0 ≤ d.getD i default → i ∉ q → ∀ j < n, adj i j = true → 0 ≤ d.getD j default ∧ d.getD j default ≤ d.getD i default + 1
  srt : q.Pairwise fun x y => d.getD x default ≤ d.getD y default
  top : ∀ h t, q = h :: t → ∀ x < n, d.getD x default ≤ d.getD h default + 1
variable {adj : Nat → Nat → Bool} {n to c m : Nat} {d : List Int} {q : List Nat}
theorem getD_setI {d : List Int} {i j : Nat} {v : Int} (h : i < d.length) : (d.set i v).getD j default = if i = j then v else d.getD j default := by
  by_cases e : i = j
  · subst e; simp [h]
  · simp [e, List.getElem?_set]
theorem vc_le (n : Nat) (d : List Int) : vc n d ≤ n := by
  unfold vc; have := List.countP_le_length (p := fun i => decide (0 ≤ d.getD i default)) (l := List.range n); simpa using this
theorem countP_flip {l : List Nat} {p r : Nat → Bool} {i : Nat} (hn : l.Nodup) (hi : i ∈ l) (hp : p i = false) (hr : r i = true) (h : ∀ j, j ≠ i → r j = p j) : l.countP r = l.countP p + 1 := by
  obtain ⟨l1, l2, rfl⟩ := List.append_of_mem hi
  have h1 : i ∉ l1 := fun hm => by
    rw [List.nodup_append] at hn
    exact hn.2.2 i hm i (by simp) rfl
  have h2 : i ∉ l2 := fun hm => by
    rw [List.nodup_append] at hn
    exact (List.nodup_cons.1 hn.2.1).1 hm
  have e1 : l1.countP r = l1.countP p := List.countP_congr fun j hj => by rw [h j fun e => h1 (e ▸ hj)]
  have e2 : l2.countP r = l2.countP p := List.countP_congr fun j hj => by rw [h j fun e => h2 (e ▸ hj)]
  rw [List.countP_append, List.countP_append, List.countP_cons, List.countP_cons, e1, e2, hp, hr]
  simp; omega
theorem vc_set {i : Nat} {v : Int} (hl : d.length = n) (hi : i < n) (hu : d.getD i default < 0) (hv : 0 ≤ v) : vc n (d.set i v) = vc n d + 1 := by
  unfold vc
  refine countP_flip (i := i) List.nodup_range (List.mem_range.2 hi) (by simpa using hu) ?_ fun j hj => ?_
  · simp only [getD_setI (show i < d.length by omega), if_true]; simpa using hv
  · simp only [getD_setI (show i < d.length by omega), if_neg (Ne.symm hj)]
theorem BJ.step (h : BJ adj n to c m d q) (hm : m < n) : BJ adj n to c (m + 1) (bstep adj c (d, q) m).1 (bstep adj c (d, q) m).2 := by
  unfold bstep
  cases hc : (adj c m && decide (d.getD m default < 0))
  · rw [cond_false]
    refine { h with mid := fun j hj ha => ?_ }
    by_cases e : j = m
    · subst e
      rw [ha, Bool.true_and] at hc
      simpa using hc
    · exact h.mid j (by omega) ha
  · rw [cond_true]
    simp only [Bool.and_eq_true, decide_eq_true_eq] at hc
    obtain ⟨ha, hu⟩ := hc
    have hml : m < d.length := by rw [h.len]; exact hm
    have hv : (0 : Int) ≤ d.getD c default + 1 := by have := h.cv; omega
    have g : ∀ j, (d.set m (d.getD c default + 1)).getD j default = if m = j then d.getD c default + 1 else d.getD j default := fun j => getD_setI hml
    have hold : ∀ j, 0 ≤ d.getD j default → (d.set m (d.getD c default + 1)).getD j default = d.getD j default := fun j hj => by
      rw [g, if_neg]; intro e; subst e; omega
    have hmt : m ≠ to := fun e => by subst e; have := h.to0; omega
    have hmc : m ≠ c := fun e => by subst e; have := h.cv; omega
    have hmq : m ∉ q := fun e => by have := (h.qmem m e).2; omega
    have hcc := hold c h.cv
    dsimp only
    refine ⟨by simpa using h.len, ?_, h.tn, ?_, ?_, ?_, ?_, h.cn, ?_, ?_, ?_, ?_, ?_, ?_, ?_, ?_⟩
    · rw [hold to (by have := h.to0; omega)]; exact h.to0
    · intro i hi; rw [g]; split
      · omega
      · exact h.ge i hi
    · intro i hi
      rw [vc_set h.len hm hu hv, g]
      have := h.bound i hi
      have := h.bound c h.cn
      split <;> omega
    · intro x hx
      rcases List.mem_append.1 hx with hx | hx
      · have := h.qmem x hx; rw [hold x this.2]; exact this
      · simp at hx; subst hx; rw [g, if_pos rfl]; exact ⟨hm, hv⟩
    · intro i hi h0 hne
      by_cases e : m = i
      · subst e; exact ⟨c, h.cn, ha, by rw [hcc]; exact h.cv, by rw [hcc, g, if_pos rfl]⟩
      · rw [g, if_neg e] at h0 ⊢
        obtain ⟨j, hj, h1, h2, h3⟩ := h.pred i hi h0 hne
        exact ⟨j, hj, h1, by rw [hold j h2]; exact h2, by rw [hold j h2]; exact h3⟩
    · rw [hcc]; exact h.cv
    · intro hx
      rcases List.mem_append.1 hx with hx | hx
      · exact h.cq hx
      · simp at hx; exact hmc hx.symm
    · rw [List.nodup_append]
      exact ⟨h.nd, by simp, fun a hax b hb => by simp at hb; rw [hb]; exact fun e => hmq (e ▸ hax)⟩
    · intro i hi h0 hq hic j hj haj
      have hiq : i ∉ q := fun hx => hq (List.mem_append_left _ hx)
      have hmi : m ≠ i := fun e => hq (List.mem_append_right _ (by simp [e]))
      rw [g, if_neg hmi] at h0
      have gi : (d.set m (d.getD c default + 1)).getD i default = d.getD i default := by rw [g, if_neg hmi]
      rw [gi]
      obtain ⟨h1, h2⟩ := h.near i hi h0 hiq hic j hj haj
      rw [hold j h1]; exact ⟨h1, h2⟩
    · intro j hj haj
      by_cases e : m = j
      · rw [g, if_pos e]; exact hv
      · have := h.mid j (by omega) haj
        rw [hold j this]; exact this
    · intro x hx
      rw [hcc]
      rcases List.mem_append.1 hx with hx | hx
      · rw [hold x (h.qmem x hx).2]; exact h.low x hx
      · simp at hx; subst hx; rw [g, if_pos rfl]; omega
    · rw [List.pairwise_append]
      refine ⟨?_, by simp, fun a hax b hb => ?_⟩
      · refine h.srt.imp_of_mem fun {a b} hax hbx hab => ?_
        rw [hold a (h.qmem a hax).2, hold b (h.qmem b hbx).2]; exact hab
      · simp at hb; rw [hb]
        rw [hold a (h.qmem a hax).2, g, if_pos rfl]
        exact h.top a (h.qmem a hax).1
    · intro x hx
      rw [hcc, g]; split
      · omega
      · exact h.top x hx
theorem BJ.start (h : BI adj n to d (c :: q)) : BJ adj n to c 0 d q := by
  have hc := h.qmem c (by simp)
  have hnd := List.nodup_cons.1 h.nd
  have hs := List.pairwise_cons.1 h.srt
  exact ⟨h.len, h.to0, h.tn, h.ge, h.bound, fun x hx => h.qmem x (by simp [hx]), h.pred, hc.1, hc.2, hnd.1, hnd.2, fun i hi h0 hq hic j hj ha => h.near i hi h0 (by simp [hq, hic]) j hj ha, fun j hj => by omega, hs.1, hs.2, h.top c q rfl⟩
theorem BJ.fin (h : BJ adj n to c n d q) : BI adj n to d q := by
  refine ⟨h.len, h.to0, h.tn, h.ge, h.bound, h.qmem, h.pred, h.nd, fun i hi h0 hq j hj ha => ?_, h.srt, fun x t e y hy => ?_⟩
  · by_cases e : i = c
    · subst e; exact ⟨h.mid j hj ha, h.top j hj⟩
    · exact h.near i hi h0 hq e j hj ha
  · subst e
    have := h.top y hy; have := h.low x (by simp); omega
theorem BJ.fold (h : BJ adj n to c m d q) : ∀ k, m + k = n → BI adj n to ((List.range' m k).foldl (bstep adj c) (d, q)).1 ((List.range' m k).foldl (bstep adj c) (d, q)).2 := by
  intro k
  induction k generalizing m d q with
  | zero => intro e; have : m = n := by omega
            subst this; exact h.fin
  | succ k ih =>
    intro e
    rw [List.range'_succ, List.foldl_cons]
    exact ih (h.step (by omega)) (by omega)
theorem BI.round (h : BI adj n to d (c :: q)) : BI adj n to ((List.range n).foldl (bstep adj c) (d, q)).1 ((List.range n).foldl (bstep adj c) (d, q)).2 := by
  rw [List.range_eq_range']; exact (BJ.start h).fold n (by omega)
/-- how much is left to do -/
theorem fold_meas (c : Nat) : ∀ (k m : Nat) (d : List Int) (q : List Nat), d.length = n → m + k = n → (∀ i < n, 0 ≤ d.getD c default) → 2 * (n - vc n ((List.range' m k).foldl (bstep adj c) (d, q)).1) + ((List.range' m k).foldl (bstep adj c) (d, q)).2.length ≤ 2 * (n - vc n d) + q.length ∧ ((List.range' m k).foldl (bstep adj c) (d, q)).1.length = n := by
  intro k
  induction k with
  | zero => intro m d q hl _ _; exact ⟨Nat.le_refl _, hl⟩
  | succ k ih =>
    intro m d q hl e hc
    rw [List.range'_succ, List.foldl_cons]
    unfold bstep
    cases hb : (adj c m && decide (d.getD m default < 0))
    · rw [cond_false]; exact ih (m + 1) d q hl (by omega) hc
    · rw [cond_true]
      simp only [Bool.and_eq_true, decide_eq_true_eq] at hb
      have hml : m < d.length := by omega
      have hc0 : 0 ≤ d.getD c default := hc m (by omega)
      have hv : (0 : Int) ≤ d.getD c default + 1 := by omega
      have := ih (m + 1) (d.set m (d.getD c default + 1)) (q ++ [m]) (by simpa using hl) (by omega) (fun i hi => by rw [getD_setI hml]; split <;> omega)
      rw [vc_set hl (by omega) hb.2 hv] at this
      have h1 := vc_le n (d.set m (d.getD c default + 1))
      rw [vc_set hl (by omega) hb.2 hv] at h1
      refine ⟨?_, this.2⟩
      have := this.1
      rw [List.length_append] at this
      simp only [List.length_cons, List.length_nil] at this
      exact Nat.le_trans this (by omega)
/-- the queue runs dry -/
theorem bfs_spec : ∀ (f : Nat) (d : List Int) (q : List Nat), BI adj n to d q → 2 * (n - vc n d) + q.length < f → BI adj n to (bfs adj n f d q) [] := by
  intro f
  induction f with
  | zero => intro d q _ hf; omega
  | succ f ih =>
    intro d q h hf
    cases q with
    | nil => exact h
    | cons c q =>
      unfold bfs
      have hm := fold_meas (adj := adj) (n := n) c n 0 d q h.len (by omega) fun i _ => (h.qmem c (by simp)).2
      rw [← List.range_eq_range'] at hm
      refine ih _ _ h.round ?_
      have := hm.1
      simp only [List.length_cons] at hf
      omega
def start (n to : Nat) : List Int := (List.replicate n (-1)).set to 0
theorem start_getD {i : Nat} (h : to < n) (hi : i < n) : (start n to).getD i default = if to = i then 0 else -1 := by
  unfold start
  rw [getD_setI (by simpa using h)]
  split
  · rfl
  · simp [hi]
theorem start_inv (adj : Nat → Nat → Bool) (h : to < n) : BI adj n to (start n to) [to] := by
  have g : ∀ i < n, (start n to).getD i default = if to = i then 0 else -1 := fun i hi => start_getD h hi
  have hv : 0 < vc n (start n to) := by
    unfold vc
    rw [List.countP_pos_iff]
    exact ⟨to, List.mem_range.2 h, by rw [g to h, if_pos rfl]; rfl⟩
  refine ⟨by simp [start], by rw [g to h, if_pos rfl], h, fun i hi => ?_, fun i hi => ?_, fun x hx => ?_, fun i hi h0 hne => ?_, by simp, fun i hi h0 hq => ?_, by simp, fun x t e y hy => ?_⟩
  · rw [g i hi]; split <;> omega
  · rw [g i hi]; split <;> omega
  · simp at hx; subst hx; exact ⟨h, by rw [g x h, if_pos rfl]; exact Int.le_refl _⟩
  · rw [g i hi, if_neg (Ne.symm hne)] at h0; omega
  · have : to ≠ i := fun e => hq (by simp [e])
    rw [g i hi, if_neg this] at h0; omega
  · simp at e; rw [← e.1, g to h, if_pos rfl, g y hy]; split <;> omega
/-- distances -/
structure Dist (adj : Nat → Nat → Bool) (n to : Nat) (d : List Int) : Prop where
  len : d.length = n
  to0 : d.getD to default = 0
  tn : to < n
  ge : ∀ i < n, -1 ≤ d.getD i default
  bound : ∀ i < n, d.getD i default < n
  pred : ∀ i < n, 0 ≤ d.getD i default → i ≠ to → ∃ j < n, adj j i = true ∧ 0 ≤ d.getD j default ∧ d.getD i default = d.getD j default + 1
  near : ∀ i < n, 0 ≤ d.getD i default → ∀ j < n, adj i j = true → 0 ≤ d.getD j default ∧ d.getD j default ≤ d.getD i default + 1
theorem bfs_dist {f : Nat} (h : to < n) (hf : 2 * n + 1 < f) : Dist adj n to (bfs adj n f (start n to) [to]) := by
  have := bfs_spec f _ _ (start_inv adj h) (by simp; omega)
  exact ⟨this.len, this.to0, this.tn, this.ge, fun i hi => by have h1 := this.bound i hi; have h2 := vc_le n (bfs adj n f (start n to) [to]); omega, this.pred, fun i hi h0 j hj ha => this.near i hi h0 (by simp) j hj ha⟩
/-- a way from i to j -/
inductive Conn (adj : Nat → Nat → Bool) (n : Nat) : Nat → Nat → Prop
  | refl {i : Nat} : i < n → Conn adj n i i
  | step {i j k : Nat} : Conn adj n i j → k < n → adj j k = true → Conn adj n i k
theorem Conn.lt {i j : Nat} (h : Conn adj n i j) : i < n ∧ j < n := by
  induction h with
  | refl h => exact ⟨h, h⟩
  | step _ hk _ ih => exact ⟨ih.1, hk⟩
theorem Conn.trans {i j k : Nat} (h : Conn adj n i j) (h2 : Conn adj n j k) : Conn adj n i k := by
  induction h2 with
  | refl _ => exact h
  | step _ hk ha ih => exact ih.step hk ha
theorem Conn.symm (hs : ∀ i < n, ∀ j < n, adj i j = adj j i) {i j : Nat} (h : Conn adj n i j) : Conn adj n j i := by
  induction h with
  | refl h => exact .refl h
  | step h1 hk ha ih =>
    have hj := h1.lt.2
    exact Conn.trans (.step (.refl hk) hj (by rw [← hs _ hj _ hk]; exact ha)) ih
end Go.Fx



/- Chapter 10, no program in sight: divisions, splits and merges. -/
set_option linter.unusedSimpArgs false
set_option linter.unusedVariables false
namespace Go.Fx
open Go Go.RowKit
/-- a division of nv volumes into sets -/
structure Part (nv : Nat) (K : List Nat) : Prop where
  nd : K.Nodup
  ne : ∀ m ∈ K, ∃ v < nv, m.testBit v = true
  hi : ∀ m ∈ K, ∀ v, m.testBit v = true → v < nv
  cov : ∀ v < nv, ∃ m ∈ K, m.testBit v = true
  dis : ∀ m ∈ K, ∀ m' ∈ K, ∀ v, m.testBit v = true → m'.testBit v = true → m = m'
def miss (K L : List Nat) : Nat := K.countP fun m => decide (m ∉ L)
def tog (K : List Nat) (v w : Nat) : Prop := ∃ m ∈ K, m.testBit v = true ∧ m.testBit w = true
variable {nv : Nat} {K L : List Nat}
end Go.Fx



/- Chapter 10: sectors and divisions, as the functions compute them. -/
set_option linter.unusedSimpArgs false
set_option linter.unusedVariables false
namespace Go.Fx
open Go Go.RowKit
theorem ipos {l n : Nat} (h : n < l) : ((n : Int) < (l : Int)) := by omega
/-! few -/
def fewB (a : XAirspace) : Bool := (a.sectors.all fun s => !decide (10 < (s.volumes.length : Int))) && ((a.configs.all fun c => !decide (10 < (c.sectors.length : Int))) && (decide ((a.volumes.length : Int) ≤ 6) && (decide ((a.sectors.length : Int) ≤ 12) && decide ((a.configs.length : Int) ≤ 7))))
theorem m12_eq (a : XAirspace) (ha : smXAirspace a) : m12_overflightref10_Few a = some (fewB a) := by
  have hs : a.sectors.length < 9223372036854775807 := by have := ha.2.1.1; omega
  have hc : a.configs.length < 9223372036854775807 := by have := ha.2.2.1.1; omega
  have h2 : ∀ fuel, a.configs.length < fuel → loop1 (m12_overflightref10_Few_B1 a) fuel 0 = some ((a.configs.all fun c => !decide (10 < (c.sectors.length : Int))) && (decide ((a.volumes.length : Int) ≤ 6) && (decide ((a.sectors.length : Int) ≤ 12) && decide ((a.configs.length : Int) ≤ 7)))) := by
    intro fuel hf
    refine up_list0 (fun t => some ((t.all fun c => !decide (10 < (c.sectors.length : Int))) && (decide ((a.volumes.length : Int) ≤ 6) && (decide ((a.sectors.length : Int) ≤ 12) && decide ((a.configs.length : Int) ≤ 7))))) a.configs hc ?_ ?_ hf
    · intro sf; unfold m12_overflightref10_Few_B1
      simp only [Int.lt_irrefl, decide_false, cond_false, List.all_nil, Bool.true_and]
      cases decide ((a.volumes.length : Int) ≤ 6) <;> cases decide ((a.sectors.length : Int) ≤ 12) <;> rfl
    · intro sf i x t h1 h2 h3 ih
      obtain ⟨_, rfl⟩ := List.getElem?_eq_some_iff.1 h2
      unfold m12_overflightref10_Few_B1
      have g1 : a.configs.getD (i : Int).toNat default = a.configs[i] := by simp [h1]
      simp only [decide_eq_true (ipos h1), cond_true, g1, h3, List.all_cons]
      rw [ck_eq (by omega), ih]
      cases decide (10 < (a.configs[i].sectors.length : Int)) <;> simp
  unfold m12_overflightref10_Few fewB
  refine up_list0 (fun t => some ((t.all fun s => !decide (10 < (s.volumes.length : Int))) && ((a.configs.all fun c => !decide (10 < (c.sectors.length : Int))) && (decide ((a.volumes.length : Int) ≤ 6) && (decide ((a.sectors.length : Int) ≤ 12) && decide ((a.configs.length : Int) ≤ 7)))))) a.sectors hs ?_ ?_ (show a.sectors.length < ((a.sectors.length : Int) - 0).toNat + 1 by omega)
  · intro sf; unfold m12_overflightref10_Few_B0
    simp only [Int.lt_irrefl, decide_false, cond_false, List.all_nil, Bool.true_and]
    exact h2 _ (by omega)
  · intro sf i x t h1 h2 h3 ih
    obtain ⟨_, rfl⟩ := List.getElem?_eq_some_iff.1 h2
    unfold m12_overflightref10_Few_B0
    have g1 : a.sectors.getD (i : Int).toNat default = a.sectors[i] := by simp [h1]
    simp only [decide_eq_true (ipos h1), cond_true, g1, h3, List.all_cons]
    rw [ck_eq (by omega), ih]
    cases decide (10 < (a.sectors[i].volumes.length : Int)) <;> simp
structure Few10 (a : XAirspace) : Prop where
  nv : a.volumes.length ≤ 6
  ns : a.sectors.length ≤ 12
  nc : a.configs.length ≤ 7
  sl : ∀ s ∈ a.sectors, s.volumes.length ≤ 10
  cl : ∀ c ∈ a.configs, c.sectors.length ≤ 10
theorem Few10.of {a : XAirspace} (h : fewB a = true) : Few10 a := by
  unfold fewB at h
  simp only [Bool.and_eq_true, List.all_eq_true, Bool.not_eq_true', decide_eq_false_iff_not, decide_eq_true_eq] at h
  obtain ⟨h1, h2, h3, h4, h5⟩ := h
  exact ⟨by omega, by omega, by omega, fun s hs => by have := h1 s hs; omega, fun c hc => by have := h2 c hc; omega⟩
/-! sectors -/
def secGo (nv : Nat) : Nat → List Int → Option Nat
  | x, [] => some x
  | x, v :: t => bif decide (v < 0) || (decide ((nv : Int) ≤ v) || x.testBit v.toNat) then none else secGo nv (x ||| 2 ^ v.toNat) t
def secV (nv : Nat) (l : List Int) : Option Nat := (secGo nv 0 l).bind fun x => if x = 0 then none else some x
def setsGo (nv : Nat) : List XSector → Option (List Nat)
  | [] => some []
  | s :: t => (secV nv s.volumes).bind fun x => (setsGo nv t).map (x :: ·)
def res {α : Type} : Option (List α) → List α × Bool
  | none => ([], false)
  | some L => (L, true)
theorem and_pow_zero {x k : Nat} : x &&& 2 ^ k = 0 ↔ x.testBit k = false := by
  constructor
  · intro h
    have : (x &&& 2 ^ k).testBit k = false := by rw [h]; exact Nat.zero_testBit k
    rw [Nat.testBit_and, Nat.testBit_two_pow_self, Bool.and_true] at this; exact this
  · intro h
    refine Nat.eq_of_testBit_eq fun i => ?_
    rw [Nat.testBit_and, Nat.zero_testBit]
    by_cases e : k = i
    · subst e; rw [h]; rfl
    · rw [Nat.testBit_two_pow_of_ne e, Bool.and_false]
theorem testBit_and_pow {x k : Nat} : decide (((x &&& 2 ^ k : Nat) : Int) ≠ 0) = x.testBit k := by
  cases h : x.testBit k
  · rw [and_pow_zero.2 h]; rfl
  · have : x &&& 2 ^ k ≠ 0 := fun e => by rw [and_pow_zero.1 e] at h; cases h
    rw [decide_eq_true_eq]; omega
theorem wrapBit {k : Nat} (h : k < 64) : IntKind.wrap .u64 (1 * 2 ^ min k (IntKind.bits .u64)) = ((2 ^ k : Nat) : Int) := by
  have hm : min k (IntKind.bits .u64) = k := Nat.min_eq_left (show k ≤ 64 by omega)
  rw [hm, Int.one_mul]
  have h1 : 2 ^ k < 2 ^ 64 := Nat.pow_lt_pow_right (by decide) h
  have e : ((2 : Int) ^ k) = ((2 ^ k : Nat) : Int) := by simp
  rw [e]
  generalize 2 ^ k = m at h1
  exact IntWalk.u64_in _ ⟨by omega, by omega⟩
theorem or_lt {x k n : Nat} (hx : x < 2 ^ n) (hk : k < n) : x ||| 2 ^ k < 2 ^ n := Nat.or_lt_two_pow hx (Nat.pow_lt_pow_right (by decide) hk)
theorem pow64 {n : Nat} (h : n ≤ 6) : 2 ^ n ≤ 64 := by
  have : 2 ^ n ≤ 2 ^ 6 := Nat.pow_le_pow_right (by decide) h
  omega
theorem m41_inner (a : XAirspace) (hf : Few10 a) (j : Nat) (hj : j < a.sectors.length) (hw : IntKind.i64.wrap ((j : Int) + 1) = (j : Int) + 1) (sf : List Int → Int → Option (List Int × Bool)) (l : List Int) (hl : l.length ≤ 12) :
    loop3 (m41_configs_sets_B1 a j sf) (((((a.sectors.getD (j : Int).toNat default).volumes).length : Int) - 0).toNat + 1) l 0 0 = match secV a.volumes.length (a.sectors.getD j default).volumes with
      | none => some (([] : List Int), false)
      | some x => sf (l ++ [(x : Int)]) ((j : Int) + 1) := by
  have hnv := hf.nv
  have hmem : a.sectors.getD j default ∈ a.sectors := by rw [show a.sectors.getD j default = a.sectors[j] by simp [hj]]; exact List.getElem_mem _
  have hsl := hf.sl _ hmem
  have e0 : a.sectors.getD (j : Int).toNat default = a.sectors.getD j default := rfl
  rw [e0]
  generalize hS : (a.sectors.getD j default).volumes = S at hsl ⊢
  refine (up_list (σ := List Int × Int) (L := fun n i s => loop3 (m41_configs_sets_B1 a j sf) n s.1 s.2 i) (fun _ s => ∃ x : Nat, s.2 = (x : Int) ∧ x < 2 ^ a.volumes.length ∧ s.1.length ≤ 12)
    (fun i t s => match (secGo a.volumes.length s.2.toNat t).bind fun x => if x = 0 then none else some x with
      | none => some (([] : List Int), false)
      | some x => sf (s.1 ++ [(x : Int)]) ((j : Int) + 1)) S (by omega) ?_ ?_ _ (l, 0) (by omega) ⟨0, rfl, Nat.two_pow_pos _, hl⟩).trans ?_
  · rintro n ⟨l, y⟩ ⟨x, rfl, hx, hl⟩
    simp only at hl ⊢
    rw [loop3_succ]
    unfold m41_configs_sets_B1
    simp only [e0, hS, Int.lt_irrefl, decide_false, cond_false, secGo, Int.toNat_natCast, Option.bind_some, hw]
    by_cases h0 : x = 0
    · subst h0; rfl
    · rw [decide_eq_false (show ¬ (x : Int) = 0 by omega), cond_false, if_neg h0, ck_eq (by simp; omega)]
  · rintro n i ⟨l, y⟩ v t h1 h2 h3 ⟨x, rfl, hx, hl⟩ ih
    obtain ⟨_, rfl⟩ := List.getElem?_eq_some_iff.1 h2
    simp only at hl ⊢
    rw [loop3_succ]
    generalize loop3 (m41_configs_sets_B1 a (j : Int) sf) n = sf2 at ih ⊢
    unfold m41_configs_sets_B1
    have g1 : S.getD i default = S[i] := by simp [h1]
    have hx64 := pow64 hnv
    simp only [e0, hS, decide_eq_true (ipos h1), cond_true, g1, h3, jn_eq, secGo, Int.toNat_natCast]
    rw [ck_eq (by omega)]
    by_cases k1 : S[i] < 0
    · rw [decide_eq_true k1]; rfl
    by_cases k2 : (a.volumes.length : Int) ≤ S[i]
    · rw [decide_eq_false k1, decide_eq_true k2]; rfl
    have hk : S[i].toNat < 64 := by omega
    rw [decide_eq_false k1, cond_false, decide_eq_false k2, cond_false, ck_eq (by omega), wrapBit hk]
    have hp : 2 ^ S[i].toNat < 2 ^ 64 := Nat.pow_lt_pow_right (by decide) hk
    rw [bits_and_u64_nat x _ (by omega) (by omega), bits_or_u64_nat x _ (by omega) (by omega), testBit_and_pow]
    simp only [Bool.false_or]
    cases x.testBit S[i].toNat
    · rw [cond_false, cond_false, ck_eq (by omega), ih (l, _) ⟨_, rfl, or_lt hx (by omega), hl⟩]
      rfl
    · rfl
  · unfold secV; rfl
theorem m41_eq (a : XAirspace) (hf : Few10 a) : m41_configs_sets a = some (res ((setsGo a.volumes.length a.sectors).map fun L => L.map fun (x : Nat) => (x : Int))) := by
  have hns := hf.ns
  unfold m41_configs_sets
  refine (up_listB (B := m41_configs_sets_B0 a) (σ := List Int) (fun i s => s.length = i) (fun i t s => some (res ((setsGo a.volumes.length t).map fun L => s ++ L.map fun (x : Nat) => (x : Int)))) a.sectors (by omega) ?_ ?_ (by omega) rfl).trans ?_
  · intro sf s h; unfold m41_configs_sets_B0
    simp [setsGo, res]
  · intro sf i s x t h1 h2 h3 hs ih
    have hx := getD_of (d := default) h2
    unfold m41_configs_sets_B0
    simp only [decide_eq_true (ipos h1), cond_true]
    rw [ck_eq (by omega), m41_inner a hf i h1 h3 sf s (by omega), hx]
    simp only [setsGo]
    cases secV a.volumes.length x.volumes with
    | none => rfl
    | some y =>
      simp only [Option.bind_some]
      rw [ih _ (by simp; omega)]
      cases setsGo a.volumes.length t <;> simp [res]
  · cases setsGo a.volumes.length a.sectors <;> simp [res]
/-! divisions -/
def cfgGo (secs : List Nat) : Nat → List (Int × Bool) → List Int → Option (Nat × List (Int × Bool))
  | x, d, [] => some (x, d)
  | x, d, s :: t => bif decide (s < 0) || (decide ((secs.length : Int) ≤ s) || decide (x &&& secs.getD s.toNat 0 ≠ 0)) then none else cfgGo secs (x ||| secs.getD s.toNat 0) (mput d (secs.getD s.toNat 0 : Nat) true) t
def cfgV (nv : Nat) (secs : List Nat) (c : List Int) : Option (List (Int × Bool)) := (cfgGo secs 0 [] c).bind fun p => if p.1 = 2 ^ nv - 1 then some p.2 else none
def divGo (nv : Nat) (secs : List Nat) : List XConfig → Option (List (List (Int × Bool)))
  | [] => some []
  | c :: t => (cfgV nv secs c.sectors).bind fun d => (divGo nv secs t).map (d :: ·)
def shapeB (a : XAirspace) : Bool := decide (1 ≤ a.volumes.length) && decide (1 ≤ a.configs.length)
def divV (a : XAirspace) : Option (List (List (Int × Bool))) := bif shapeB a then (setsGo a.volumes.length a.sectors).bind fun secs => divGo a.volumes.length secs a.configs else none
theorem all_eq {n : Nat} (h1 : 1 ≤ n) (h : n ≤ 6) : (18446744073709551615 / 2 ^ min (IntKind.wrap .i64 (64 - (n : Int))).toNat (IntKind.bits .u64) : Int) = ((2 ^ n - 1 : Nat) : Int) := by
  have : n = 1 ∨ n = 2 ∨ n = 3 ∨ n = 4 ∨ n = 5 ∨ n = 6 := by omega
  rcases this with rfl | rfl | rfl | rfl | rfl | rfl <;> decide +kernel
theorem getD_mapI (secs : List Nat) (i : Nat) : (secs.map fun (x : Nat) => (x : Int)).getD i default = ((secs.getD i 0 : Nat) : Int) := by
  simp only [List.getD_eq_getElem?_getD, List.getElem?_map]
  cases secs[i]? <;> rfl
theorem getD_lt {secs : List Nat} {b i : Nat} (h : ∀ x ∈ secs, x < b) (hi : i < secs.length) : secs.getD i 0 < b := by
  rw [show secs.getD i 0 = secs[i] by simp [hi]]; exact h _ (List.getElem_mem _)
theorem m31_inner (a : XAirspace) (hf : Few10 a) (hv1 : 1 ≤ a.volumes.length) (secs : List Nat) (hb : ∀ x ∈ secs, x < 64) (j : Nat) (hj : j < a.configs.length) (hw : IntKind.i64.wrap ((j : Int) + 1) = (j : Int) + 1) (sf : List (List (Int × Bool)) → Int → Option (List (List (Int × Bool)) × Bool)) (l : List (List (Int × Bool))) (hl : l.length ≤ 12) :
    loop4 (m31_configs_divisions_B1 a (secs.map (fun (x : Nat) => (x : Int)), true) j sf) (((((a.configs.getD (j : Int).toNat default).sectors).length : Int) - 0).toNat + 1) l 0 0 ([] : List (Int × Bool)) = match cfgV a.volumes.length secs (a.configs.getD j default).sectors with
      | none => some (([] : List (List (Int × Bool))), false)
      | some d => sf (l ++ [d]) ((j : Int) + 1) := by
  have hnv := hf.nv
  have hmem : a.configs.getD j default ∈ a.configs := by rw [show a.configs.getD j default = a.configs[j] by simp [hj]]; exact List.getElem_mem _
  have hcl := hf.cl _ hmem
  have e0 : a.configs.getD (j : Int).toNat default = a.configs.getD j default := rfl
  rw [e0]
  generalize hS : (a.configs.getD j default).sectors = S at hcl ⊢
  refine (up_list (σ := List (List (Int × Bool)) × Int × List (Int × Bool)) (L := fun n i s => loop4 (m31_configs_divisions_B1 a (secs.map (fun (x : Nat) => (x : Int)), true) j sf) n s.1 s.2.1 i s.2.2) (fun _ s => ∃ x : Nat, s.2.1 = (x : Int) ∧ x < 64 ∧ s.1.length ≤ 12)
    (fun i t s => match (cfgGo secs s.2.1.toNat s.2.2 t).bind fun p => if p.1 = 2 ^ a.volumes.length - 1 then some p.2 else none with
      | none => some (([] : List (List (Int × Bool))), false)
      | some d => sf (s.1 ++ [d]) ((j : Int) + 1)) S (by omega) ?_ ?_ _ (l, 0, []) (by omega) ⟨0, rfl, by decide, hl⟩).trans ?_
  · rintro n ⟨l, y, d⟩ ⟨x, rfl, hx, hl⟩
    simp only at hl ⊢
    rw [loop4_succ]
    unfold m31_configs_divisions_B1
    simp only [e0, hS, Int.lt_irrefl, decide_false, cond_false, cfgGo, Int.toNat_natCast, Option.bind_some, hw, all_eq hv1 hnv]
    by_cases h0 : x = 2 ^ a.volumes.length - 1
    · rw [decide_eq_false (show ¬ ((x : Int) ≠ ((2 ^ a.volumes.length - 1 : Nat) : Int)) by omega), cond_false, if_pos h0, ck_eq (by simp; omega)]
    · rw [decide_eq_true (show ((x : Int) ≠ ((2 ^ a.volumes.length - 1 : Nat) : Int)) by omega), cond_true, if_neg h0]
  · rintro n i ⟨l, y, d⟩ v t h1 h2 h3 ⟨x, rfl, hx, hl⟩ ih
    obtain ⟨_, rfl⟩ := List.getElem?_eq_some_iff.1 h2
    simp only at hl ⊢
    rw [loop4_succ]
    generalize loop4 (m31_configs_divisions_B1 a (secs.map (fun (x : Nat) => (x : Int)), true) (j : Int) sf) n = sf2 at ih ⊢
    unfold m31_configs_divisions_B1
    have g1 : S.getD i default = S[i] := by simp [h1]
    simp only [e0, hS, decide_eq_true (ipos h1), cond_true, g1, h3, jn_eq, cfgGo, Int.toNat_natCast, List.length_map, getD_mapI]
    rw [ck_eq (by omega)]
    by_cases k1 : S[i] < 0
    · rw [decide_eq_true k1]; rfl
    by_cases k2 : (secs.length : Int) ≤ S[i]
    · rw [decide_eq_false k1, decide_eq_true k2]; rfl
    rw [decide_eq_false k1, cond_false, decide_eq_false k2, cond_false, ck_eq (by omega)]
    have hm : secs.getD S[i].toNat 0 < 64 := getD_lt hb (by omega)
    rw [bits_and_u64_nat x _ (by omega) (by omega), bits_or_u64_nat x _ (by omega) (by omega)]
    simp only [Bool.false_or]
    have hor : x ||| secs.getD S[i].toNat 0 < 64 := Nat.or_lt_two_pow (n := 6) hx hm
    have ed : decide (((x &&& secs.getD S[i].toNat 0 : Nat) : Int) ≠ 0) = decide (x &&& secs.getD S[i].toNat 0 ≠ 0) := by
      by_cases h0 : x &&& secs.getD S[i].toNat 0 = 0
      · simp [h0]
      · rw [decide_eq_true h0]; simp only [ne_eq, decide_eq_true_eq]; omega
    rw [ed]
    cases decide (x &&& secs.getD S[i].toNat 0 ≠ 0)
    · rw [cond_false, cond_false, ck_eq (by omega), ck_eq (by omega), ih (l, _, _) ⟨_, rfl, hor, hl⟩]
      rfl
    · rfl
  · unfold cfgV; rfl
theorem secGo_lt {nv : Nat} : ∀ {t : List Int} {x y : Nat}, x < 2 ^ nv → secGo nv x t = some y → y < 2 ^ nv := by
  intro t
  induction t with
  | nil => intro x y hx h; cases h; exact hx
  | cons v t ih =>
    intro x y hx h
    unfold secGo at h
    cases hc : (decide (v < 0) || (decide ((nv : Int) ≤ v) || x.testBit v.toNat))
    · rw [hc, cond_false] at h
      simp only [Bool.or_eq_false_iff, decide_eq_false_iff_not] at hc
      exact ih (or_lt hx (by omega)) h
    · rw [hc] at h; cases h
theorem setsGo_lt {nv : Nat} : ∀ {l : List XSector} {L : List Nat}, setsGo nv l = some L → (∀ x ∈ L, x < 2 ^ nv) ∧ L.length = l.length := by
  intro l
  induction l with
  | nil => intro L h; cases h; simp
  | cons s t ih =>
    intro L h
    unfold setsGo at h
    cases h1 : secV nv s.volumes with
    | none => rw [h1] at h; cases h
    | some x =>
      rw [h1, Option.bind_some] at h
      cases h2 : setsGo nv t with
      | none => rw [h2] at h; cases h
      | some M =>
        rw [h2, Option.map_some] at h
        cases h
        obtain ⟨i1, i2⟩ := ih h2
        unfold secV at h1
        cases h3 : secGo nv 0 s.volumes with
        | none => rw [h3] at h1; cases h1
        | some y =>
          rw [h3, Option.bind_some] at h1
          have : y = x := by split at h1 <;> simp_all
          subst this
          refine ⟨fun z hz => ?_, by simp [i2]⟩
          rcases List.mem_cons.1 hz with rfl | hz
          · exact secGo_lt (Nat.two_pow_pos _) h3
          · exact i1 z hz
theorem m31_eq (a : XAirspace) (hf : Few10 a) : m31_configs_divisions a = some (res (divV a)) := by
  have hnv := hf.nv; have hns := hf.ns; have hnc := hf.nc
  unfold m31_configs_divisions divV
  simp only [jn_eq, m41_eq a hf, Option.bind_some]
  by_cases c1 : (a.volumes.length : Int) < 1
  · have : shapeB a = false := by unfold shapeB; rw [decide_eq_false (by omega)]; rfl
    rw [decide_eq_true c1, this]; rfl
  by_cases c2 : (a.configs.length : Int) < 1
  · have : shapeB a = false := by unfold shapeB; rw [decide_eq_false (show ¬ 1 ≤ a.configs.length by omega), Bool.and_false]
    rw [decide_eq_false c1, decide_eq_false (show ¬ 64 < (a.volumes.length : Int) by omega), decide_eq_false (show ¬ 64 < (a.sectors.length : Int) by omega), decide_eq_true c2, this]; rfl
  have : shapeB a = true := by unfold shapeB; rw [decide_eq_true (show 1 ≤ a.configs.length by omega), decide_eq_true (by omega)]; rfl
  rw [decide_eq_false c1, decide_eq_false (show ¬ 64 < (a.volumes.length : Int) by omega), decide_eq_false (show ¬ 64 < (a.sectors.length : Int) by omega), decide_eq_false c2, decide_eq_false (show ¬ 32 < (a.configs.length : Int) by omega), this]
  simp only [cond_false, cond_true]
  cases hs : setsGo a.volumes.length a.sectors with
  | none => rfl
  | some secs =>
    obtain ⟨hlt, hlen⟩ := setsGo_lt hs
    have h64 := pow64 hnv
    simp only [Option.map_some, res, Bool.not_true, cond_false, Option.bind_some]
    rw [ck_eq (by rw [wrap_i64 (by omega) (by omega)]; omega)]
    refine (up_listB (B := m31_configs_divisions_B0 a (secs.map (fun (x : Nat) => (x : Int)), true)) (σ := List (List (Int × Bool))) (fun i s => s.length = i) (fun i t s => some (res ((divGo a.volumes.length secs t).map fun L => s ++ L))) a.configs (by omega) ?_ ?_ (by omega) rfl).trans ?_
    · intro sf s h; unfold m31_configs_divisions_B0
      simp [divGo, res]
    · intro sf i s x t h1 h2 h3 hs ih
      have hx := getD_of (d := default) h2
      unfold m31_configs_divisions_B0
      simp only [decide_eq_true (ipos h1), cond_true]
      rw [ck_eq (by omega), m31_inner a hf (by omega) secs (fun x hx => by have := hlt x hx; omega) i h1 h3 sf s (by omega), hx]
      simp only [divGo]
      cases cfgV a.volumes.length secs x.sectors with
      | none => rfl
      | some y =>
        simp only [Option.bind_some]
        rw [ih _ (by simp; omega)]
        cases divGo a.volumes.length secs t <;> simp [res]
    · cases divGo a.volumes.length secs a.configs <;> simp [res]
theorem m15_eq (a : XAirspace) (hf : Few10 a) : m15_configs_Check a = some (bif (divV a).isSome then 0 else 100) := by
  unfold m15_configs_Check
  rw [m31_eq a hf, Option.bind_some]
  cases divV a <;> rfl
end Go.Fx



set_option linter.unusedVariables false
set_option linter.unusedSimpArgs false
set_option maxRecDepth 100000
set_option maxHeartbeats 0
namespace Go.Fx
open Go Go.RowKit Go.Proofs
end Go.Fx



set_option linter.unusedVariables false
set_option linter.unusedSimpArgs false
set_option maxRecDepth 100000
set_option maxHeartbeats 0
namespace Go.Fx
open Go Go.RowKit Go.Proofs
end Go.Fx



set_option linter.unusedVariables false
set_option linter.unusedSimpArgs false
set_option maxRecDepth 100000
set_option maxHeartbeats 0
namespace Go.Fx
open Go Go.RowKit Go.Proofs
end Go.Fx



set_option linter.unusedVariables false
set_option linter.unusedSimpArgs false
set_option maxRecDepth 100000
set_option maxHeartbeats 0
namespace Go.Fx
open Go Go.RowKit Go.Proofs
end Go.Fx



set_option linter.unusedVariables false
set_option linter.unusedSimpArgs false
set_option maxRecDepth 100000
set_option maxHeartbeats 0
namespace Go.Fx
open Go Go.RowKit Go.Proofs
end Go.Fx



/- Chapter 10: what valid airspaces are, with the program's words and with the document's. -/
set_option linter.unusedSimpArgs false
set_option linter.unusedVariables false
namespace Go.Fx
open Go Go.RowKit
/-! the document's Check -/
def idxOk (below : Int) (l : List Int) : Prop := (∀ v ∈ l, 0 ≤ v ∧ v < below) ∧ l.Nodup
instance (below : Int) (l : List Int) : Decidable (idxOk below l) := by unfold idxOk; infer_instance
def hasV (a : XAirspace) (v : Nat) (s : Int) : Bool := decide ((v : Int) ∈ (a.sectors.getD s.toNat default).volumes)
def divOk (a : XAirspace) (c : List Int) : Prop := idxOk a.sectors.length c ∧ ∀ v < a.volumes.length, c.countP (hasV a v) = 1
instance (a : XAirspace) (c : List Int) : Decidable (divOk a c) := by unfold divOk; infer_instance
theorem sec_len {a : XAirspace} (hf : Few10 a) (i : Nat) : (a.sectors.getD i default).volumes.length ≤ 10 := by
  by_cases h : i < a.sectors.length
  · rw [show a.sectors.getD i default = a.sectors[i] by simp [h]]; exact hf.sl _ (List.getElem_mem _)
  · rw [show a.sectors.getD i default = default by simp [List.getD, List.getElem?_eq_none (show a.sectors.length ≤ i by omega)]]; decide
structure OKa (a : XAirspace) : Prop where
  nv1 : 1 ≤ a.volumes.length
  nc1 : 1 ≤ a.configs.length
  sec : ∀ s ∈ a.sectors, s.volumes ≠ [] ∧ idxOk a.volumes.length s.volumes
  cfg : ∀ c ∈ a.configs, divOk a c.sectors
noncomputable def okB (a : XAirspace) : Bool := @decide (OKa a) (Classical.propDecidable _)
theorem okB_true {a : XAirspace} : okB a = true ↔ OKa a := by unfold okB; exact @decide_eq_true_iff _ (Classical.propDecidable _)
theorem okB_false {a : XAirspace} (h : ¬ OKa a) : okB a = false := by
  cases e : okB a
  · rfl
  · exact absurd (okB_true.1 e) h
/-! the sector of a volume -/
def secOf (a : XAirspace) (volume : Int) (c : List Int) : Int × Bool := match c.find? (fun s => decide (0 ≤ s) && (decide (s < (a.sectors.length : Int)) && decide (volume ∈ (a.sectors.getD s.toNat default).volumes))) with
  | some s => (s, true)
  | none => (0, false)
def sectorM (a : XAirspace) (konfig volume : Int) : Int × Bool := bif decide (konfig < 0) || decide ((a.configs.length : Int) ≤ konfig) then (0, false) else secOf a volume (a.configs.getD konfig.toNat default).sectors
theorem m39_eq (s : List Int) (v : Int) (hl : s.length < 9223372036854775807) : ∃ n : Int, m39_slices_Indexint_int_ s v = some n ∧ (0 ≤ n ↔ v ∈ s) ∧ (n < 0 → n = -1) ∧ (0 ≤ n → s.getD n.toNat default = v ∧ n.toNat < s.length ∧ ∀ k < n.toNat, s.getD k default ≠ v) := by
  let F : Nat → List Int → Int := fun i t => if v ∈ t then ((i + t.idxOf v : Nat) : Int) else -1
  have hF : m39_slices_Indexint_int_ s v = some (F 0 s) := by
    unfold m39_slices_Indexint_int_
    refine up_listI (fun i t => some (F i t)) s hl ?_ ?_ (show s.length < ((s.length : Int) - 0).toNat + 1 by omega)
    · intro sf; unfold m39_slices_Indexint_int__B0; simp [F]
    · intro sf i x t h1 h2 h3 ih
      obtain ⟨_, rfl⟩ := List.getElem?_eq_some_iff.1 h2
      unfold m39_slices_Indexint_int__B0
      have g1 : s.getD (i : Int).toNat default = s[i] := by simp [h1]
      simp only [decide_eq_true (ipos h1), cond_true, g1, h3, ih]
      rw [ck_eq (by omega)]
      by_cases h : v = s[i]
      · rw [decide_eq_true h, cond_true]; simp [F, ← h]
      · rw [decide_eq_false h, cond_false]
        simp only [F, List.mem_cons, h, false_or]
        by_cases hm : v ∈ t
        · simp only [hm, if_true]; rw [List.idxOf_cons, show (s[i] == v) = false by simpa using Ne.symm h]; simp; omega
        · simp only [hm, if_false]
  refine ⟨F 0 s, hF, ?_, ?_, ?_⟩
  · simp only [F]; by_cases hm : v ∈ s
    · simp only [hm, if_true, iff_true]; omega
    · simp only [hm, if_false]; exact ⟨fun h => by omega, fun h => h.elim⟩
  · simp only [F]; split
    · intro h; omega
    · intro _; rfl
  · simp only [F]; by_cases hm : v ∈ s
    · simp only [hm, if_true, Nat.zero_add, Int.toNat_natCast]
      intro _
      have hlt := List.idxOf_lt_length_of_mem hm
      refine ⟨by rw [show s.getD (s.idxOf v) default = s[s.idxOf v] by simp [hlt]]; exact List.getElem_idxOf hlt, hlt, fun k hk e => ?_⟩
      have hk' : k < s.length := by omega
      rw [show s.getD k default = s[k] by simp [hk']] at e
      have := List.not_of_lt_findIdx (xs := s) (p := fun x => x == v) (i := k) hk
      simp [e] at this
    · simp only [hm, if_false]; omega
theorem m29_eq (s : List Int) (v : Int) (hl : s.length < 9223372036854775807) : m29_slices_Containsint_int_ s v = some (decide (v ∈ s)) := by
  obtain ⟨n, h1, h2, _⟩ := m39_eq s v hl
  unfold m29_slices_Containsint_int_
  rw [h1, Option.bind_some]; simp only [h2]
theorem m13_eq (a : XAirspace) (hf : Few10 a) (konfig volume : Int) : m13_configs_Sector a konfig volume = some (sectorM a konfig volume) := by
  have hnc := hf.nc
  unfold m13_configs_Sector sectorM
  simp only [jn_eq]
  by_cases c1 : konfig < 0
  · rw [decide_eq_true c1]; rfl
  by_cases c2 : (a.configs.length : Int) ≤ konfig
  · rw [decide_eq_false c1, decide_eq_true c2]; rfl
  rw [decide_eq_false c1, decide_eq_false c2]
  simp only [cond_false, Bool.false_or]
  rw [ck_eq (by omega)]
  have hmem : a.configs.getD konfig.toNat default ∈ a.configs := by rw [show a.configs.getD konfig.toNat default = a.configs[konfig.toNat]'(by omega) by simp [show konfig.toNat < a.configs.length by omega]]; exact List.getElem_mem _
  have hcl := hf.cl _ hmem
  refine up_list0 (fun t => some (secOf a volume t)) (a.configs.getD konfig.toNat default).sectors (by omega) ?_ ?_ (show _ < (((a.configs.getD konfig.toNat default).sectors.length : Int) - 0).toNat + 1 by omega)
  · intro sf; unfold m13_configs_Sector_B0; simp [secOf]
  · intro sf i x t h1 h2 h3 ih
    obtain ⟨_, rfl⟩ := List.getElem?_eq_some_iff.1 h2
    unfold m13_configs_Sector_B0
    generalize hS : (a.configs.getD konfig.toNat default).sectors = S at *
    have g1 : S.getD (i : Int).toNat default = S[i] := by simp [h1]
    simp only [decide_eq_true (ipos h1), cond_true, g1, h3, jn_eq, ih]
    have hck : (0 : Int) ≤ (i : Int) ∧ (i : Int) < (S.length : Int) := by omega
    simp only [ck_eq hck]
    have es : secOf a volume (S[i] :: t) = bif decide (0 ≤ S[i]) && (decide (S[i] < (a.sectors.length : Int)) && decide (volume ∈ (a.sectors.getD S[i].toNat default).volumes)) then (S[i], true) else secOf a volume t := by
      unfold secOf; rw [List.find?_cons]
      cases (decide (0 ≤ S[i]) && (decide (S[i] < (a.sectors.length : Int)) && decide (volume ∈ (a.sectors.getD S[i].toNat default).volumes))) <;> rfl
    rw [es]
    by_cases k1 : 0 ≤ S[i]
    · by_cases k2 : S[i] < (a.sectors.length : Int)
      · rw [decide_eq_true k1, decide_eq_true k2]
        simp only [cond_true, Bool.true_and]
        rw [ck_eq (by omega), m29_eq _ _ (by have := sec_len hf S[i].toNat; omega), Option.bind_some]
        cases decide (volume ∈ (a.sectors.getD S[i].toNat default).volumes) <;> rfl
      · rw [decide_eq_false k2]; simp
    · rw [decide_eq_false k1]; simp
end Go.Fx



set_option linter.unusedVariables false
set_option linter.unusedSimpArgs false
set_option maxRecDepth 100000
set_option maxHeartbeats 0
namespace Go.Fx
open Go Go.RowKit Go.Proofs
end Go.Fx



set_option linter.unusedVariables false
set_option linter.unusedSimpArgs false
set_option maxRecDepth 100000
set_option maxHeartbeats 0
namespace Go.Fx
open Go Go.RowKit Go.Proofs
end Go.Fx



set_option linter.unusedVariables false
set_option linter.unusedSimpArgs false
set_option maxRecDepth 100000
set_option maxHeartbeats 0
namespace Go.Fx
open Go Go.RowKit Go.Proofs
end Go.Fx



/- Chapter 10: the program's divisions are those of the document; splits and merges. -/
set_option linter.unusedSimpArgs false
set_option linter.unusedVariables false
set_option linter.unusedSectionVars false
namespace Go.Fx
open Go Go.RowKit
/-! masks -/
theorem testBit_or_pow {x k w : Nat} : (x ||| 2 ^ k).testBit w = (x.testBit w || decide (k = w)) := by
  rw [Nat.testBit_or]
  by_cases e : k = w
  · subst e; simp
  · rw [Nat.testBit_two_pow_of_ne e, decide_eq_false e]
theorem secGo_sound {nv : Nat} : ∀ {t : List Int} {x y : Nat}, secGo nv x t = some y → (∀ v ∈ t, 0 ≤ v ∧ v < nv) ∧ t.Nodup ∧ (∀ v ∈ t, x.testBit v.toNat = false) ∧ ∀ w, y.testBit w = (x.testBit w || decide ((w : Int) ∈ t)) := by
  intro t
  induction t with
  | nil => intro x y h; cases h; simp
  | cons v t ih =>
    intro x y h
    unfold secGo at h
    cases hc : (decide (v < 0) || (decide ((nv : Int) ≤ v) || x.testBit v.toNat))
    · rw [hc, cond_false] at h
      simp only [Bool.or_eq_false_iff, decide_eq_false_iff_not] at hc
      obtain ⟨h1, h2, h3, h4⟩ := ih h
      have h3' : ∀ u ∈ t, x.testBit u.toNat = false ∧ ¬ v.toNat = u.toNat := fun u hu => by
        have := h3 u hu; rw [testBit_or_pow, Bool.or_eq_false_iff, decide_eq_false_iff_not] at this; exact this
      refine ⟨?_, ?_, ?_, ?_⟩
      · intro u hu
        rcases List.mem_cons.1 hu with rfl | hu
        · omega
        · exact h1 u hu
      · exact List.nodup_cons.2 ⟨fun hm => (h3' v hm).2 rfl, h2⟩
      · intro u hu
        rcases List.mem_cons.1 hu with rfl | hu
        · exact hc.2.2
        · exact (h3' u hu).1
      · intro w
        rw [h4 w, testBit_or_pow, Bool.or_assoc]
        congr 1
        rw [Bool.eq_iff_iff]
        simp only [Bool.or_eq_true, decide_eq_true_eq, List.mem_cons]
        constructor
        · rintro (h | h)
          · left; omega
          · exact .inr h
        · rintro (h | h)
          · left; omega
          · exact .inr h
    · rw [hc] at h; cases h
theorem secGo_comp {nv : Nat} : ∀ {t : List Int} {x : Nat}, (∀ v ∈ t, 0 ≤ v ∧ v < (nv : Int)) → t.Nodup → (∀ v ∈ t, x.testBit v.toNat = false) → ∃ y, secGo nv x t = some y := by
  intro t
  induction t with
  | nil => intro x _ _ _; exact ⟨x, rfl⟩
  | cons v t ih =>
    intro x h1 h2 h3
    have hv := h1 v (by simp)
    have hn := List.nodup_cons.1 h2
    obtain ⟨y, hy⟩ := ih (x := x ||| 2 ^ v.toNat) (fun u hu => h1 u (by simp [hu])) hn.2 fun u hu => by
      rw [testBit_or_pow, h3 u (by simp [hu]), Bool.false_or, decide_eq_false_iff_not]
      intro e
      have hu' := h1 u (by simp [hu])
      exact hn.1 (by rw [show v = u by omega]; exact hu)
    refine ⟨y, ?_⟩
    unfold secGo
    rw [decide_eq_false (show ¬ v < 0 by omega), decide_eq_false (show ¬ (nv : Int) ≤ v by omega), h3 v (by simp)]
    exact hy
theorem secV_sound {nv : Nat} {l : List Int} {y : Nat} (h : secV nv l = some y) : l ≠ [] ∧ idxOk nv l ∧ ∀ w, y.testBit w = decide ((w : Int) ∈ l) := by
  unfold secV at h
  cases h1 : secGo nv 0 l with
  | none => rw [h1] at h; cases h
  | some x =>
    rw [h1, Option.bind_some] at h
    split at h
    · cases h
    · rename_i hx
      cases h
      obtain ⟨a1, a2, _, a4⟩ := secGo_sound h1
      refine ⟨fun e => ?_, ⟨a1, a2⟩, fun w => by rw [a4 w, Nat.zero_testBit, Bool.false_or]⟩
      subst e; cases h1; exact hx rfl
theorem secV_comp {nv : Nat} {l : List Int} (h1 : l ≠ []) (h2 : idxOk nv l) : ∃ y, secV nv l = some y := by
  obtain ⟨y, hy⟩ := secGo_comp (nv := nv) (x := 0) h2.1 h2.2 fun v _ => Nat.zero_testBit _
  unfold secV
  rw [hy, Option.bind_some]
  refine ⟨y, if_neg ?_⟩
  rintro rfl
  obtain ⟨_, _, _, a4⟩ := secGo_sound hy
  obtain ⟨v, hv⟩ := List.exists_mem_of_ne_nil l h1
  have := a4 v.toNat
  have h0 := (h2.1 v hv).1
  rw [Nat.zero_testBit, Bool.false_or, show ((v.toNat : Nat) : Int) = v by omega, decide_eq_true hv] at this
  cases this
structure Masks (a : XAirspace) (L : List Nat) : Prop where
  len : L.length = a.sectors.length
  bit : ∀ i < a.sectors.length, ∀ w, (L.getD i 0).testBit w = decide ((w : Int) ∈ (a.sectors.getD i default).volumes)
theorem setsGo_sound {nv : Nat} : ∀ {l : List XSector} {L : List Nat}, setsGo nv l = some L → (∀ s ∈ l, s.volumes ≠ [] ∧ idxOk nv s.volumes) ∧ ∀ i < l.length, ∀ w, (L.getD i 0).testBit w = decide ((w : Int) ∈ (l.getD i default).volumes) := by
  intro l
  induction l with
  | nil => intro L h; simp
  | cons s t ih =>
    intro L h
    unfold setsGo at h
    cases h1 : secV nv s.volumes with
    | none => rw [h1] at h; cases h
    | some x =>
      rw [h1, Option.bind_some] at h
      cases h2 : setsGo nv t with
      | none => rw [h2] at h; cases h
      | some M =>
        rw [h2, Option.map_some] at h
        cases h
        obtain ⟨i1, i2⟩ := ih h2
        obtain ⟨a1, a2, a3⟩ := secV_sound h1
        refine ⟨fun z hz => ?_, fun i hi w => ?_⟩
        · rcases List.mem_cons.1 hz with rfl | hz
          · exact ⟨a1, a2⟩
          · exact i1 z hz
        · cases i with
          | zero => exact a3 w
          | succ i => exact i2 i (by simpa using hi) w
theorem setsGo_comp {nv : Nat} : ∀ {l : List XSector}, (∀ s ∈ l, s.volumes ≠ [] ∧ idxOk nv s.volumes) → ∃ L, setsGo nv l = some L := by
  intro l
  induction l with
  | nil => intro _; exact ⟨[], rfl⟩
  | cons s t ih =>
    intro h
    obtain ⟨L, hL⟩ := ih fun z hz => h z (by simp [hz])
    obtain ⟨y, hy⟩ := secV_comp (h s (by simp)).1 (h s (by simp)).2
    exact ⟨y :: L, by unfold setsGo; rw [hy, hL]; rfl⟩
/-! configurations -/
def orK (secs : List Nat) (x : Nat) (c : List Int) : Nat := c.foldl (fun x s => x ||| secs.getD s.toNat 0) x
def putK (secs : List Nat) (d : List (Int × Bool)) (c : List Int) : List (Int × Bool) := c.foldl (fun d s => mput d (secs.getD s.toNat 0 : Nat) true) d
theorem or_and_zero {x m y : Nat} : (x ||| m) &&& y = 0 ↔ x &&& y = 0 ∧ m &&& y = 0 := by
  rw [Nat.and_or_distrib_right, Nat.or_eq_zero_iff]
theorem and_zero {x y : Nat} : x &&& y = 0 ↔ ∀ w, x.testBit w = true → y.testBit w = false := by
  constructor
  · intro h w hx
    have : (x &&& y).testBit w = false := by rw [h]; exact Nat.zero_testBit w
    rw [Nat.testBit_and, hx, Bool.true_and] at this; exact this
  · intro h
    refine Nat.eq_of_testBit_eq fun w => ?_
    rw [Nat.testBit_and, Nat.zero_testBit]
    cases hx : x.testBit w
    · rfl
    · rw [h w hx]; rfl
theorem cfgGo_sound {secs : List Nat} : ∀ {t : List Int} {x : Nat} {d : List (Int × Bool)} {p : Nat × List (Int × Bool)}, cfgGo secs x d t = some p → (∀ s ∈ t, 0 ≤ s ∧ s < (secs.length : Int)) ∧ t.Pairwise (fun s u => secs.getD s.toNat 0 &&& secs.getD u.toNat 0 = 0) ∧ (∀ s ∈ t, x &&& secs.getD s.toNat 0 = 0) ∧ p = (orK secs x t, putK secs d t) := by
  intro t
  induction t with
  | nil => intro x d p h; cases h; simp [orK, putK]
  | cons s t ih =>
    intro x d p h
    unfold cfgGo at h
    cases hc : (decide (s < 0) || (decide ((secs.length : Int) ≤ s) || decide (x &&& secs.getD s.toNat 0 ≠ 0)))
    · rw [hc, cond_false] at h
      simp only [Bool.or_eq_false_iff, decide_eq_false_iff_not, ne_eq, Decidable.not_not] at hc
      obtain ⟨h1, h2, h3, h4⟩ := ih h
      refine ⟨?_, ?_, ?_, h4⟩
      · intro u hu
        rcases List.mem_cons.1 hu with rfl | hu
        · omega
        · exact h1 u hu
      · exact List.pairwise_cons.2 ⟨fun u hu => (or_and_zero.1 (h3 u hu)).2, h2⟩
      · intro u hu
        rcases List.mem_cons.1 hu with rfl | hu
        · exact hc.2.2
        · exact (or_and_zero.1 (h3 u hu)).1
    · rw [hc] at h; cases h
theorem cfgGo_comp {secs : List Nat} : ∀ {t : List Int} {x : Nat} {d : List (Int × Bool)}, (∀ s ∈ t, 0 ≤ s ∧ s < (secs.length : Int)) → t.Pairwise (fun s u => secs.getD s.toNat 0 &&& secs.getD u.toNat 0 = 0) → (∀ s ∈ t, x &&& secs.getD s.toNat 0 = 0) → cfgGo secs x d t = some (orK secs x t, putK secs d t) := by
  intro t
  induction t with
  | nil => intro x d _ _ _; rfl
  | cons s t ih =>
    intro x d h1 h2 h3
    have hp := List.pairwise_cons.1 h2
    have hs := h1 s (by simp)
    unfold cfgGo
    rw [decide_eq_false (show ¬ s < 0 by omega), decide_eq_false (show ¬ (secs.length : Int) ≤ s by omega), decide_eq_false (show ¬ (x &&& secs.getD s.toNat 0 ≠ 0) from fun h => h (h3 s (by simp)))]
    exact ih (fun u hu => h1 u (by simp [hu])) hp.2 fun u hu => or_and_zero.2 ⟨h3 u (by simp [hu]), hp.1 u hu⟩
theorem orK_bit {secs : List Nat} {w : Nat} : ∀ {c : List Int} {x : Nat}, (orK secs x c).testBit w = (x.testBit w || c.any fun s => (secs.getD s.toNat 0).testBit w) := by
  intro c
  induction c with
  | nil => intro x; simp [orK]
  | cons s t ih =>
    intro x
    show (orK secs (x ||| secs.getD s.toNat 0) t).testBit w = _
    rw [ih, Nat.testBit_or, List.any_cons, Bool.or_assoc]
theorem count_le_one {α : Type} {p : α → Bool} : ∀ {l : List α}, l.Pairwise (fun a b => ¬ (p a = true ∧ p b = true)) → l.countP p ≤ 1 := by
  intro l
  induction l with
  | nil => intro _; simp
  | cons a t ih =>
    intro h
    have hp := List.pairwise_cons.1 h
    rw [List.countP_cons]
    by_cases ha : p a = true
    · have : t.countP p = 0 := List.countP_eq_zero.2 fun b hb hpb => hp.1 b hb ⟨ha, hpb⟩
      rw [this, if_pos ha]; exact Nat.le_refl _
    · rw [if_neg ha]; exact ih hp.2
theorem two_count {α : Type} {p : α → Bool} {A : List α} {a b : α} (ha : a ∈ A) (hb : b ∈ A) (hne : a ≠ b) (pa : p a = true) (pb : p b = true) : 2 ≤ A.countP p := by
  obtain ⟨l1, l2, rfl⟩ := List.append_of_mem ha
  rw [List.countP_append, List.countP_cons, pa]
  rcases List.mem_append.1 hb with h | h
  · have : 0 < l1.countP p := List.countP_pos_iff.2 ⟨b, h, pb⟩; simp; omega
  · rcases List.mem_cons.1 h with h | h
    · exact absurd h.symm hne
    · have : 0 < l2.countP p := List.countP_pos_iff.2 ⟨b, h, pb⟩; simp; omega
section cfg
variable {a : XAirspace} {secs : List Nat} (hm : Masks a secs) (hsec : ∀ s ∈ a.sectors, s.volumes ≠ [] ∧ idxOk a.volumes.length s.volumes)
include hm hsec
theorem bit_has {s : Int} (h : 0 ≤ s ∧ s < (a.sectors.length : Int)) (v : Nat) : (secs.getD s.toNat 0).testBit v = hasV a v s := by
  rw [hm.bit s.toNat (by omega) v]; rfl
theorem bit_lt {s : Int} (h : 0 ≤ s ∧ s < (a.sectors.length : Int)) {v : Nat} (hb : (secs.getD s.toNat 0).testBit v = true) : v < a.volumes.length := by
  rw [hm.bit s.toNat (by omega) v, decide_eq_true_eq] at hb
  have hmem : a.sectors.getD s.toNat default ∈ a.sectors := by rw [show a.sectors.getD s.toNat default = a.sectors[s.toNat]'(by omega) by simp [show s.toNat < a.sectors.length by omega]]; exact List.getElem_mem _
  have := (hsec _ hmem).2.1 _ hb
  omega
theorem bit_ex {s : Int} (h : 0 ≤ s ∧ s < (a.sectors.length : Int)) : ∃ v < a.volumes.length, (secs.getD s.toNat 0).testBit v = true := by
  have hmem : a.sectors.getD s.toNat default ∈ a.sectors := by rw [show a.sectors.getD s.toNat default = a.sectors[s.toNat]'(by omega) by simp [show s.toNat < a.sectors.length by omega]]; exact List.getElem_mem _
  obtain ⟨h1, h2⟩ := hsec _ hmem
  obtain ⟨v, hv⟩ := List.exists_mem_of_ne_nil _ h1
  have := h2.1 v hv
  refine ⟨v.toNat, by omega, ?_⟩
  rw [hm.bit s.toNat (by omega), show ((v.toNat : Nat) : Int) = v by omega, decide_eq_true hv]
theorem all_bits (x : Nat) : x = 2 ^ a.volumes.length - 1 ↔ ∀ w, x.testBit w = decide (w < a.volumes.length) := by
  constructor
  · rintro rfl w; exact Nat.testBit_two_pow_sub_one _ _
  · intro h; exact Nat.eq_of_testBit_eq fun w => by rw [h w, Nat.testBit_two_pow_sub_one]
theorem cfgV_sound {c : List Int} {d : List (Int × Bool)} (h : cfgV a.volumes.length secs c = some d) : divOk a c ∧ d = putK secs [] c := by
  unfold cfgV at h
  cases h1 : cfgGo secs 0 [] c with
  | none => rw [h1] at h; cases h
  | some p =>
    rw [h1, Option.bind_some] at h
    split at h
    · rename_i hp
      cases h
      obtain ⟨a1, a2, _, a4⟩ := cfgGo_sound h1
      subst a4
      have hall := (all_bits hm hsec _).1 hp
      rw [hm.len] at a1
      refine ⟨⟨⟨a1, ?_⟩, fun v hv => ?_⟩, rfl⟩
      · refine a2.imp_of_mem fun {s u} hs hu hd e => ?_
        subst e
        obtain ⟨v, _, hb⟩ := bit_ex hm hsec (a1 _ hs)
        have := and_zero.1 hd v hb
        rw [hb] at this; cases this
      · have h2 : c.countP (hasV a v) ≤ 1 := count_le_one (a2.imp_of_mem fun {s u} hs hu hd hh => by
          have := and_zero.1 hd v (by rw [bit_has hm hsec (a1 _ hs)]; exact hh.1)
          rw [bit_has hm hsec (a1 _ hu), hh.2] at this; cases this)
        have h3 : 0 < c.countP (hasV a v) := by
          have := hall v
          rw [orK_bit, Nat.zero_testBit, Bool.false_or, decide_eq_true hv, List.any_eq_true] at this
          obtain ⟨s, hs, hb⟩ := this
          exact List.countP_pos_iff.2 ⟨s, hs, by rw [← bit_has hm hsec (a1 _ hs)]; exact hb⟩
        omega
    · cases h
theorem div_disj {c : List Int} (h : divOk a c) : c.Pairwise (fun s u => secs.getD s.toNat 0 &&& secs.getD u.toNat 0 = 0) := by
  refine List.Pairwise.imp_of_mem (R := fun a b => a ≠ b) (fun {s u} hs hu hne => and_zero.2 fun w hw => ?_) h.1.2
  have hlt := bit_lt hm hsec (h.1.1 _ hs) hw
  cases hb : (secs.getD u.toNat 0).testBit w
  · rfl
  · have := two_count (p := hasV a w) hs hu hne (by rw [← bit_has hm hsec (h.1.1 _ hs)]; exact hw) (by rw [← bit_has hm hsec (h.1.1 _ hu)]; exact hb)
    have := h.2 w hlt
    omega
theorem cfgV_comp {c : List Int} (h : divOk a c) : cfgV a.volumes.length secs c = some (putK secs [] c) := by
  unfold cfgV
  rw [cfgGo_comp (x := 0) (d := []) (by rw [hm.len]; exact h.1.1) (div_disj hm hsec h) (fun s _ => Nat.zero_and _), Option.bind_some]
  refine if_pos ((all_bits hm hsec _).2 fun w => ?_)
  rw [orK_bit, Nat.zero_testBit, Bool.false_or, Bool.eq_iff_iff, List.any_eq_true, decide_eq_true_eq]
  constructor
  · rintro ⟨s, hs, hb⟩; exact bit_lt hm hsec (h.1.1 _ hs) hb
  · intro hw
    have := h.2 w hw
    obtain ⟨s, hs, hp⟩ := List.countP_pos_iff.1 (show 0 < c.countP (hasV a w) by omega)
    exact ⟨s, hs, by rw [bit_has hm hsec (h.1.1 _ hs)]; exact hp⟩
theorem divGo_sound : ∀ {l : List XConfig} {L : List (List (Int × Bool))}, divGo a.volumes.length secs l = some L → (∀ c ∈ l, divOk a c.sectors) ∧ L = l.map fun c => putK secs [] c.sectors := by
  intro l
  induction l with
  | nil => intro L h; cases h; simp
  | cons c t ih =>
    intro L h
    unfold divGo at h
    cases h1 : cfgV a.volumes.length secs c.sectors with
    | none => rw [h1] at h; cases h
    | some d =>
      rw [h1, Option.bind_some] at h
      cases h2 : divGo a.volumes.length secs t with
      | none => rw [h2] at h; cases h
      | some M =>
        rw [h2, Option.map_some] at h
        cases h
        obtain ⟨i1, i2⟩ := ih h2
        obtain ⟨a1, a2⟩ := cfgV_sound hm hsec h1
        subst a2 i2
        refine ⟨fun z hz => ?_, rfl⟩
        rcases List.mem_cons.1 hz with rfl | hz
        · exact a1
        · exact i1 z hz
theorem divGo_comp : ∀ {l : List XConfig}, (∀ c ∈ l, divOk a c.sectors) → divGo a.volumes.length secs l = some (l.map fun c => putK secs [] c.sectors) := by
  intro l
  induction l with
  | nil => intro _; rfl
  | cons c t ih =>
    intro h
    unfold divGo
    rw [cfgV_comp hm hsec (h c (by simp)), ih fun z hz => h z (by simp [hz])]
    rfl
end cfg
theorem divV_ok {a : XAirspace} (h : OKa a) : ∃ secs, Masks a secs ∧ divV a = some (a.configs.map fun c => putK secs [] c.sectors) := by
  obtain ⟨L, hL⟩ := setsGo_comp h.sec
  have hm : Masks a L := ⟨(setsGo_lt hL).2, (setsGo_sound hL).2⟩
  refine ⟨L, hm, ?_⟩
  unfold divV
  have : shapeB a = true := by unfold shapeB; rw [decide_eq_true h.nv1, decide_eq_true h.nc1]; rfl
  rw [this, cond_true, hL, Option.bind_some, divGo_comp hm h.sec h.cfg]
theorem divV_bad {a : XAirspace} (h : ¬ OKa a) : divV a = none := by
  cases e : divV a with
  | none => rfl
  | some D =>
    exfalso
    unfold divV at e
    cases hs : shapeB a
    · rw [hs] at e; cases e
    · rw [hs, cond_true] at e
      cases h1 : setsGo a.volumes.length a.sectors with
      | none => rw [h1] at e; cases e
      | some L =>
        rw [h1, Option.bind_some] at e
        have hsec := (setsGo_sound h1).1
        have hm : Masks a L := ⟨(setsGo_lt h1).2, (setsGo_sound h1).2⟩
        unfold shapeB at hs
        simp only [Bool.and_eq_true, decide_eq_true_eq] at hs
        exact h ⟨hs.1, hs.2, hsec, (divGo_sound hm hsec e).1⟩
theorem divV_some {a : XAirspace} : (divV a).isSome = okB a := by
  by_cases h : OKa a
  · obtain ⟨secs, _, e⟩ := divV_ok h
    rw [e, okB_true.2 h]; rfl
  · rw [divV_bad h, okB_false h]; rfl
/-! the maps -/
def keysOf (d : List (Int × Bool)) : List Nat := d.map fun p => p.1.toNat
structure MapT (d : List (Int × Bool)) : Prop where
  ris : Ris d
  tru : ∀ p ∈ d, p.2 = true ∧ 0 ≤ p.1
  len : d.length ≤ 10
theorem putK_ris {secs : List Nat} : ∀ {c : List Int} {d : List (Int × Bool)}, Ris d → Ris (putK secs d c) := by
  intro c
  induction c with
  | nil => intro d h; exact h
  | cons s t ih => intro d h; exact ih (mput_ris h _ _)
theorem putK_mem {secs : List Nat} {p : Int × Bool} : ∀ {c : List Int} {d : List (Int × Bool)}, Ris d → (∀ q ∈ d, q.2 = true) → (p ∈ putK secs d c ↔ p ∈ d ∨ ∃ s ∈ c, p = (((secs.getD s.toNat 0 : Nat) : Int), true)) := by
  intro c
  induction c with
  | nil => intro d h ht; simp [putK]
  | cons s t ih =>
    intro d h ht
    have ht' : ∀ q ∈ mput d (secs.getD s.toNat 0 : Nat) true, q.2 = true := fun q hq => by
      rcases (mput_mem h _ _ q).1 hq with e | ⟨e, _⟩
      · rw [e]
      · exact ht q e
    show p ∈ putK secs (mput d (secs.getD s.toNat 0 : Nat) true) t ↔ _
    rw [ih (mput_ris h _ _) ht', mput_mem h]
    constructor
    · rintro ((h1 | ⟨h1, _⟩) | ⟨u, hu, h1⟩)
      · exact .inr ⟨s, by simp, h1⟩
      · exact .inl h1
      · exact .inr ⟨u, by simp [hu], h1⟩
    · rintro (h1 | ⟨u, hu, h1⟩)
      · by_cases e : p.1 = ((secs.getD s.toNat 0 : Nat) : Int)
        · refine .inl (.inl ?_)
          obtain ⟨k, b⟩ := p
          have := ht _ h1
          simp only at e this
          rw [e, this]
        · exact .inl (.inr ⟨h1, e⟩)
      · rcases List.mem_cons.1 hu with rfl | hu
        · exact .inl (.inl h1)
        · exact .inr ⟨u, hu, h1⟩
theorem ris_keys {d : List (Int × Bool)} (h : Ris d) (hn : ∀ p ∈ d, 0 ≤ p.1) : (keysOf d).Nodup := by
  unfold keysOf
  rw [List.nodup_iff_pairwise_ne, List.pairwise_map]
  exact List.Pairwise.imp_of_mem (fun {p q} hp hq hlt => by have := hn p hp; have := hn q hq; omega) h
section keys
variable {a : XAirspace} {secs : List Nat} (hm : Masks a secs) (hsec : ∀ s ∈ a.sectors, s.volumes ≠ [] ∧ idxOk a.volumes.length s.volumes) {c : List Int} (h : divOk a c)
include hm hsec h
omit hm hsec h in
theorem keys_mem {m : Nat} : m ∈ keysOf (putK secs [] c) ↔ ∃ s ∈ c, m = secs.getD s.toNat 0 := by
  unfold keysOf
  simp only [List.mem_map, putK_mem (d := []) List.Pairwise.nil (by simp), List.not_mem_nil, false_or]
  constructor
  · rintro ⟨p, ⟨s, hs, rfl⟩, rfl⟩; exact ⟨s, hs, by simp⟩
  · rintro ⟨s, hs, rfl⟩; exact ⟨_, ⟨s, hs, rfl⟩, Int.toNat_natCast _⟩
omit hm hsec h in
theorem put_tru {p : Int × Bool} (hp : p ∈ putK secs [] c) : p.2 = true ∧ 0 ≤ p.1 := by
  rw [putK_mem (d := []) List.Pairwise.nil (by simp)] at hp
  rcases hp with hp | ⟨s, _, rfl⟩
  · cases hp
  · exact ⟨rfl, Int.natCast_nonneg _⟩
omit hm hsec h in
theorem put_nodup : (keysOf (putK secs [] c)).Nodup := ris_keys (putK_ris List.Pairwise.nil) fun p hp => (put_tru hp).2
theorem keys_len : (keysOf (putK secs [] c)).length = c.length := by
  have hn : (c.map fun s => secs.getD s.toNat 0).Nodup := by
    rw [List.nodup_iff_pairwise_ne, List.pairwise_map]
    refine List.Pairwise.imp_of_mem (fun {s u} hs hu hd e => ?_) (div_disj hm hsec h)
    obtain ⟨v, _, hb⟩ := bit_ex hm hsec (h.1.1 _ hs)
    have := and_zero.1 hd v hb
    rw [← e, hb] at this; cases this
  have hp : (keysOf (putK secs [] c)).Perm (c.map fun s => secs.getD s.toNat 0) := (List.perm_ext_iff_of_nodup put_nodup hn).2 fun m => by
    rw [keys_mem, List.mem_map]
    exact ⟨fun ⟨s, hs, e⟩ => ⟨s, hs, e.symm⟩, fun ⟨s, hs, e⟩ => ⟨s, hs, e.symm⟩⟩
  rw [hp.length_eq, List.length_map]
theorem keys_part : Part a.volumes.length (keysOf (putK secs [] c)) := by
  have u1 : ∀ {s u : Int} {v : Nat}, s ∈ c → u ∈ c → (secs.getD s.toNat 0).testBit v = true → (secs.getD u.toNat 0).testBit v = true → s = u := fun {s u v} hs hu h1 h2 => by
    refine Classical.byContradiction fun hne => ?_
    have := two_count (p := hasV a v) hs hu hne (by rw [← bit_has hm hsec (h.1.1 _ hs)]; exact h1) (by rw [← bit_has hm hsec (h.1.1 _ hu)]; exact h2)
    have := h.2 v (bit_lt hm hsec (h.1.1 _ hs) h1)
    omega
  refine ⟨put_nodup, fun m hmm => ?_, fun m hmm v hv => ?_, fun v hv => ?_, fun m hmm m' hmm' v h1 h2 => ?_⟩
  · obtain ⟨s, hs, rfl⟩ := keys_mem.1 hmm
    exact bit_ex hm hsec (h.1.1 _ hs)
  · obtain ⟨s, hs, rfl⟩ := keys_mem.1 hmm
    exact bit_lt hm hsec (h.1.1 _ hs) hv
  · have := h.2 v hv
    obtain ⟨s, hs, hp⟩ := List.countP_pos_iff.1 (show 0 < c.countP (hasV a v) by omega)
    exact ⟨_, keys_mem.2 ⟨s, hs, rfl⟩, by rw [bit_has hm hsec (h.1.1 _ hs)]; exact hp⟩
  · obtain ⟨s, hs, rfl⟩ := keys_mem.1 hmm
    obtain ⟨u, hu, rfl⟩ := keys_mem.1 hmm'
    rw [u1 hs hu h1 h2]
theorem put_map (hl : c.length ≤ 10) : MapT (putK secs [] c) := ⟨putK_ris List.Pairwise.nil, fun p hp => put_tru hp, by have := keys_len hm hsec h; unfold keysOf at this; rw [List.length_map] at this; omega⟩
theorem tog_iff {v w : Nat} (hv : v < a.volumes.length) : tog (keysOf (putK secs [] c)) v w ↔ ∃ s ∈ c, hasV a v s = true ∧ hasV a w s = true := by
  constructor
  · rintro ⟨m, hmm, h1, h2⟩
    obtain ⟨s, hs, rfl⟩ := keys_mem.1 hmm
    rw [bit_has hm hsec (h.1.1 _ hs)] at h1 h2
    exact ⟨s, hs, h1, h2⟩
  · rintro ⟨s, hs, h1, h2⟩
    exact ⟨_, keys_mem.2 ⟨s, hs, rfl⟩, by rw [bit_has hm hsec (h.1.1 _ hs)]; exact h1, by rw [bit_has hm hsec (h.1.1 _ hs)]; exact h2⟩
end keys
/-! steps -/
def stepN (A B : Nat) : Bool := decide ((A = 0 ∧ B = 0) ∨ (A = 1 ∧ B = 2) ∨ (A = 2 ∧ B = 1))
def stepB (d o : List (Int × Bool)) : Bool := stepN (miss (keysOf d) (keysOf o)) (miss (keysOf o) (keysOf d))
theorem get_key {o : List (Int × Bool)} (ho : MapT o) {n : Int} (hn : 0 ≤ n) : (mget o n).getD false = decide (n.toNat ∈ keysOf o) := by
  rw [Bool.eq_iff_iff, decide_eq_true_eq]
  unfold keysOf
  rw [List.mem_map]
  constructor
  · intro h
    cases e : mget o n with
    | none => rw [e] at h; cases h
    | some b => exact ⟨_, mget_some e, rfl⟩
  · rintro ⟨p, hp, e⟩
    have := ho.tru p hp
    obtain ⟨k, b⟩ := p
    simp only at e this
    have hk : k = n := by omega
    subst hk
    rw [mget_of ho.ris hp, this.1]; rfl
theorem m43_eq (d o : List (Int × Bool)) (hd : MapT d) (ho : MapT o) : m43_configs_missing d o = some ((miss (keysOf d) (keysOf o) : Nat) : Int) := by
  unfold m43_configs_missing
  show mrng (m43_configs_missing_B0 o) m43_configs_missing_K0 d 0 = _
  rw [mrng_fold (f := fun p n => bif !((mget o p.1).getD false) then IntKind.wrap .i64 (n + 1) else n)]
  · have : ∀ (l : List (Int × Bool)) (n : Nat), n + l.length ≤ 100 → l.foldl (fun n p => bif !((mget o p.1).getD false) then IntKind.wrap .i64 (n + 1) else n) (n : Int) = ((n + l.countP (fun p => !((mget o p.1).getD false)) : Nat) : Int) := by
      intro l
      induction l with
      | nil => intro n _; simp
      | cons p t ih =>
        intro n hn
        simp only [List.length_cons] at hn
        rw [List.foldl_cons, List.countP_cons]
        cases (!((mget o p.1).getD false))
        · rw [cond_false, ih n (by omega)]; simp
        · rw [cond_true, wrapS (by omega)]
          have := ih (n + 1) (by omega)
          rw [show ((n + 1 : Nat) : Int) = (n : Int) + 1 by omega] at this
          rw [this]; simp; omega
    have h1 := this d 0 (by have := hd.len; omega)
    unfold m43_configs_missing_K0
    rw [show (0 : Int) = ((0 : Nat) : Int) from rfl, h1]
    congr 2
    rw [Nat.zero_add]
    unfold miss keysOf
    rw [List.countP_map]
    refine List.countP_congr fun p hp => ?_
    have := get_key ho (hd.tru p hp).2
    rw [this]
    unfold keysOf
    simp
  · intro sf x hx s
    unfold m43_configs_missing_B0
    cases (!((mget o x.1).getD false)) <;> rfl
  · intro x _ y _ s
    cases (!((mget o x.1).getD false)) <;> cases (!((mget o y.1).getD false)) <;> rfl
theorem m36_eq (d o : List (Int × Bool)) (hd : MapT d) (ho : MapT o) : m36_configs_step d o = some (stepB d o) := by
  unfold m36_configs_step
  rw [m43_eq d o hd ho, m43_eq o d ho hd]
  simp only [Option.bind_some, jn_eq]
  unfold stepB stepN
  generalize miss (keysOf d) (keysOf o) = A
  generalize miss (keysOf o) (keysOf d) = B
  by_cases h0 : A = 0
  · subst h0
    by_cases k : B = 0
    · subst k; rfl
    · have : ¬ ((B : Int) = 0) := by omega
      simp [this, k]
  by_cases h1 : A = 1
  · subst h1
    by_cases k : B = 2
    · subst k; rfl
    · have : ¬ ((B : Int) = 2) := by omega
      simp [this, k]
  by_cases h2 : A = 2
  · subst h2
    by_cases k : B = 1
    · subst k; rfl
    · have : ¬ ((B : Int) = 1) := by omega
      simp [this, k]
  · have k0 : ¬ ((A : Int) = 0) := by omega
    have k1 : ¬ ((A : Int) = 1) := by omega
    have k2 : ¬ ((A : Int) = 2) := by omega
    simp [k0, k1, k2, h0, h1, h2]
end Go.Fx



/- Chapter 10: steps, of the program and of the document. -/
set_option linter.unusedSimpArgs false
set_option linter.unusedVariables false
namespace Go.Fx
open Go Go.RowKit
def lay (a : XAirspace) : List (List (Int × Bool)) := (divV a).getD []
structure LayOk (a : XAirspace) : Prop where
  nv1 : 1 ≤ a.volumes.length
  nc1 : 1 ≤ a.configs.length
  len : (lay a).length = a.configs.length
  map : ∀ i < a.configs.length, MapT ((lay a).getD i default)
  part : ∀ i < a.configs.length, Part a.volumes.length (keysOf ((lay a).getD i default))
  klen : ∀ i < a.configs.length, (keysOf ((lay a).getD i default)).length = (a.configs.getD i default).sectors.length
  togs : ∀ i < a.configs.length, ∀ v < a.volumes.length, ∀ w, tog (keysOf ((lay a).getD i default)) v w ↔ ∃ s ∈ (a.configs.getD i default).sectors, hasV a v s = true ∧ hasV a w s = true
  cfg : ∀ i < a.configs.length, divOk a (a.configs.getD i default).sectors
theorem lay_ok {a : XAirspace} (hf : Few10 a) (h : OKa a) : LayOk a ∧ divV a = some (lay a) := by
  obtain ⟨secs, hm, e⟩ := divV_ok h
  have el : lay a = a.configs.map fun c => putK secs [] c.sectors := by unfold lay; rw [e]; rfl
  have gi : ∀ i, i < a.configs.length → (lay a).getD i default = putK secs [] (a.configs.getD i default).sectors ∧ a.configs.getD i default ∈ a.configs := fun i hi => by
    have h2 : a.configs.getD i default = a.configs[i] := by simp [hi]
    rw [el, h2]
    exact ⟨by simp [hi], List.getElem_mem _⟩
  refine ⟨⟨h.nv1, h.nc1, by rw [el, List.length_map], fun i hi => ?_, fun i hi => ?_, fun i hi => ?_, fun i hi v hv w => ?_, fun i hi => h.cfg _ (gi i hi).2⟩, by rw [el]; exact e⟩
  · rw [(gi i hi).1]; exact put_map hm h.sec (h.cfg _ (gi i hi).2) (hf.cl _ (gi i hi).2)
  · rw [(gi i hi).1]; exact keys_part hm h.sec (h.cfg _ (gi i hi).2)
  · rw [(gi i hi).1]; exact keys_len hm h.sec (h.cfg _ (gi i hi).2)
  · rw [(gi i hi).1]; exact tog_iff hm h.sec (h.cfg _ (gi i hi).2) hv
def adjN (a : XAirspace) (i j : Nat) : Bool := decide (i ≠ j) && stepB ((lay a).getD i default) ((lay a).getD j default)
def inR (a : XAirspace) (n : Int) : Bool := decide (0 ≤ n) && decide (n < (a.configs.length : Int))
noncomputable def stepM (a : XAirspace) (f t : Int) : Bool := okB a && (inR a f && (inR a t && adjN a f.toNat t.toNat))
theorem inR_true {a : XAirspace} {n : Int} : inR a n = true ↔ 0 ≤ n ∧ n < (a.configs.length : Int) := by unfold inR; simp
theorem m31_ok {a : XAirspace} (hf : Few10 a) (h : OKa a) : m31_configs_divisions a = some (lay a, true) := by
  rw [m31_eq a hf, (lay_ok hf h).2]; rfl
theorem m31_bad {a : XAirspace} (hf : Few10 a) (h : ¬ OKa a) : m31_configs_divisions a = some ([], false) := by
  rw [m31_eq a hf, divV_bad h]; rfl
theorem m15_eq' (a : XAirspace) (hf : Few10 a) : m15_configs_Check a = some (bif okB a then 0 else 100) := by rw [m15_eq a hf, divV_some]
theorem m19_eq (a : XAirspace) (hf : Few10 a) (f t : Int) : m19_configs_Step a f t = some (stepM a f t) := by
  unfold m19_configs_Step stepM
  by_cases h : OKa a
  · obtain ⟨L, _⟩ := lay_ok hf h
    rw [m31_ok hf h, okB_true.2 h]
    simp only [Option.bind_some, jn_eq, Bool.not_true, cond_false, L.len, Bool.true_and]
    by_cases f1 : f < 0
    · have : inR a f = false := by unfold inR; rw [decide_eq_false (show ¬ 0 ≤ f by omega)]; rfl
      rw [decide_eq_true f1, this]; rfl
    by_cases f2 : (a.configs.length : Int) ≤ f
    · have : inR a f = false := by unfold inR; rw [decide_eq_false (show ¬ f < (a.configs.length : Int) by omega), Bool.and_false]
      rw [decide_eq_false f1, decide_eq_true f2, this]; rfl
    by_cases t1 : t < 0
    · have : inR a t = false := by unfold inR; rw [decide_eq_false (show ¬ 0 ≤ t by omega)]; rfl
      rw [decide_eq_false f1, decide_eq_false f2, decide_eq_true t1, this]; simp
    by_cases t2 : (a.configs.length : Int) ≤ t
    · have : inR a t = false := by unfold inR; rw [decide_eq_false (show ¬ t < (a.configs.length : Int) by omega), Bool.and_false]
      rw [decide_eq_false f1, decide_eq_false f2, decide_eq_false t1, decide_eq_true t2, this]; simp
    rw [decide_eq_false f1, decide_eq_false f2, decide_eq_false t1, decide_eq_false t2, inR_true.2 ⟨by omega, by omega⟩, inR_true.2 ⟨by omega, by omega⟩]
    simp only [cond_false, Bool.true_and]
    by_cases e : f = t
    · subst e; unfold adjN; simp
    · rw [decide_eq_false e, cond_false, ck_eq (by omega), ck_eq (by omega), m36_eq _ _ (L.map _ (by omega)) (L.map _ (by omega)), Option.bind_some]
      unfold adjN
      rw [decide_eq_true (show f.toNat ≠ t.toNat by omega), Bool.true_and]
  · rw [m31_bad hf h, okB_false h]; rfl
/-! the document's -/
theorem has_uniq {a : XAirspace} {c : List Int} (h : divOk a c) {v : Nat} (hv : v < a.volumes.length) {s u : Int} (hs : s ∈ c) (hu : u ∈ c) (h1 : hasV a v s = true) (h2 : hasV a v u = true) : s = u := by
  refine Classical.byContradiction fun hne => ?_
  have := two_count hs hu hne h1 h2
  have := h.2 v hv
  omega
end Go.Fx



set_option linter.unusedVariables false
set_option linter.unusedSimpArgs false
set_option maxRecDepth 100000
set_option maxHeartbeats 0
namespace Go.Fx
open Go Go.RowKit Go.Proofs
end Go.Fx



set_option linter.unusedVariables false
set_option linter.unusedSimpArgs false
set_option maxRecDepth 100000
set_option maxHeartbeats 0
namespace Go.Fx
open Go Go.RowKit Go.Proofs
end Go.Fx



set_option linter.unusedVariables false
set_option linter.unusedSimpArgs false
set_option maxRecDepth 100000
set_option maxHeartbeats 0
namespace Go.Fx
open Go Go.RowKit Go.Proofs
end Go.Fx



/- Chapter 10: distances, what is reached, and the ways. -/
set_option linter.unusedSimpArgs false
set_option linter.unusedVariables false
namespace Go.Fx
open Go Go.RowKit
def natI (l : List Nat) : List Int := l.map fun (x : Nat) => (x : Int)
theorem natI_append (a b : List Nat) : natI (a ++ b) = natI a ++ natI b := List.map_append
theorem natI_len (a : List Nat) : (natI a).length = a.length := List.length_map _
theorem nodup_len {n : Nat} : ∀ {q : List Nat}, q.Nodup → (∀ x ∈ q, x < n) → q.length ≤ n := by
  induction n with
  | zero => intro q _ h; cases q with
    | nil => exact Nat.le_refl _
    | cons x t => exact absurd (h x (by simp)) (Nat.not_lt_zero _)
  | succ n ih =>
    intro q hn h
    by_cases hm : n ∈ q
    · have h1 := ih (q := q.erase n) (hn.erase _) fun x hx => by
        have hx' := (List.Nodup.mem_erase_iff hn).1 hx
        have := h x hx'.2
        omega
      rw [List.length_erase_of_mem hm] at h1
      omega
    · have := ih hn fun x hx => by
        have h1 := h x hx
        have : x ≠ n := fun e => hm (e ▸ hx)
        omega
      omega
/-! the program's neighbours -/
theorem m38_eq (a : XAirspace) (L : LayOk a) (hn : a.configs.length ≤ 7) (c : Nat) (hc : c < a.configs.length) : m38_configs_next (lay a) c = some (natI ((List.range a.configs.length).filter (adjN a c))) := by
  have hl := L.len
  have h1 : m45_configs_next_1 (lay a) c = some (natI ((List.range a.configs.length).filter (adjN a c))) := by
    unfold m45_configs_next_1
    refine (up_listI (B := m45_configs_next_1_B0 (lay a) c) (fun i t => some (natI ((List.range' i t.length).filter (adjN a c)))) (lay a) (by omega) ?_ ?_ (by omega)).trans (by rw [hl, List.range_eq_range'])
    · intro sf; unfold m45_configs_next_1_B0
      simp only [Int.lt_irrefl, decide_false, cond_false]; rfl
    · intro sf i x t h1 h2 h3 ih
      have hi : i < a.configs.length := by omega
      unfold m45_configs_next_1_B0
      rw [List.length_cons, List.range'_succ, List.filter_cons]
      simp only [decide_eq_true (ipos h1), cond_true, h3, ih, Int.toNat_natCast]
      by_cases e : i = c
      · subst e
        rw [decide_eq_false (show ¬ ((i : Int) ≠ i) from fun h => h rfl), cond_false]
        have : adjN a i i = false := by unfold adjN; simp
        rw [this]; rfl
      · have e2 : adjN a c i = stepB ((lay a).getD c default) ((lay a).getD i default) := by unfold adjN; rw [decide_eq_true (Ne.symm e), Bool.true_and]
        rw [decide_eq_true (show (i : Int) ≠ c by omega), cond_true, ck_eq (by omega), ck_eq (by omega), m36_eq _ _ (L.map c hc) (L.map i hi), Option.bind_some, ← e2]
        cases adjN a c i <;> rfl
  unfold m38_configs_next
  rw [h1]; rfl
/-! distances -/
theorem m34_fold (adj : Nat → Nat → Bool) {n to c : Nat} (hn : n ≤ 7) (v : List Int) (hv : v.getD 0 default = (c : Int)) (K : List Int → List Int → Option (List Int)) : ∀ (k m : Nat) (d : List Int) (q : List Nat), m + k = n → BJ adj n to c m d q →
    rng2 (m34_configs_distances_B1 v) K (natI ((List.range' m k).filter (adj c))) (natI q) d = K (natI ((List.range' m k).foldl (bstep adj c) (d, q)).2) ((List.range' m k).foldl (bstep adj c) (d, q)).1 := by
  intro k
  induction k with
  | zero => intro m d q _ _; simp only [List.range'_zero, List.filter_nil, List.foldl_nil]; exact rng2_nil
  | succ k ih =>
    intro m d q e h
    have hq := nodup_len h.nd fun x hx => (h.qmem x hx).1
    have hs := h.step (show m < n by omega)
    rw [List.range'_succ, List.filter_cons, List.foldl_cons]
    have hd := h.len
    have hm : m < d.length := by omega
    have hc : c < d.length := by have := h.cn; omega
    have hb : bstep adj c (d, q) m = bif adj c m && decide (d.getD m default < 0) then (d.set m (d.getD c default + 1), q ++ [m]) else (d, q) := rfl
    rw [hb] at hs ⊢
    by_cases ha : adj c m = true
    · rw [if_pos ha]
      show rng2 _ K ((m : Int) :: natI _) _ _ = _
      rw [rng2_cons]
      generalize hR : rng2 (m34_configs_distances_B1 v) K (natI ((List.range' (m + 1) k).filter (adj c))) = R
      unfold m34_configs_distances_B1
      simp only [hv, Int.toNat_natCast]
      have k1 : (0 : Int) ≤ (m : Int) ∧ (m : Int) < (d.length : Int) := by omega
      have k2 : (0 : Int) ≤ (c : Int) ∧ (c : Int) < (d.length : Int) := by omega
      simp only [ck_eq k1, ck_eq k2]
      by_cases hu : d.getD m default < 0
      · rw [ha, Bool.true_and, decide_eq_true hu, cond_true] at hs ⊢
        have := h.bound c h.cn; have := vc_le n d; have := h.cv
        rw [decide_eq_false (show ¬ 0 ≤ d.getD m default by omega), cond_false, ck_eq (by rw [natI_len]; simp; omega), wrap_i64 (by omega) (by omega), ← hR]
        have := ih (m + 1) _ _ (by omega) hs
        rw [natI_append] at this
        exact this
      · rw [decide_eq_false hu, Bool.and_false, cond_false] at hs ⊢
        rw [decide_eq_true (show 0 ≤ d.getD m default by omega), cond_true, ← hR]
        exact ih (m + 1) _ _ (by omega) hs
    · have ha' : adj c m = false := by simpa using ha
      rw [if_neg ha]
      rw [ha', Bool.false_and, cond_false] at hs ⊢
      exact ih (m + 1) _ _ (by omega) hs
theorem m34_loop (a : XAirspace) (L : LayOk a) (hn : a.configs.length ≤ 7) {to : Nat} : ∀ (f : Nat) (d : List Int) (q : List Nat), BI (adjN a) a.configs.length to d q → 2 * (a.configs.length - vc a.configs.length d) + q.length < f →
    loop2 (m34_configs_distances_B0 (lay a)) f (natI q) d = some (bfs (adjN a) a.configs.length f d q) := by
  intro f
  induction f with
  | zero => intro d q _ h; omega
  | succ f ih =>
    intro d q h hf
    rw [loop2_succ]
    cases q with
    | nil => unfold m34_configs_distances_B0; rfl
    | cons c q =>
      generalize hR : loop2 (m34_configs_distances_B0 (lay a)) f = R at ih ⊢
      unfold m34_configs_distances_B0 bfs
      have hc := h.qmem c (by simp)
      have e0 : (natI (c :: q)).getD 0 default = (c : Int) := rfl
      have e1 : (natI (c :: q)).length = q.length + 1 := by rw [natI_len]; rfl
      rw [e1, decide_eq_true (show (0 : Int) < ((q.length + 1 : Nat) : Int) by omega), cond_true, ck_eq (by omega), ck_eq (by omega), e0, m38_eq a L hn c hc.1, Option.bind_some]
      simp only [jn_eq]
      have e2 : (natI (c :: q)).drop 1 = natI q := rfl
      rw [e2, List.range_eq_range', m34_fold (adjN a) hn (natI (c :: q)) e0 _ _ 0 d q (by omega) (BJ.start h)]
      have hm := fold_meas (adj := adjN a) (n := a.configs.length) c a.configs.length 0 d q h.len (by omega) fun i _ => hc.2
      have hr := h.round
      rw [List.range_eq_range'] at hr
      exact ih _ _ hr (by have := hm.1; simp only [List.length_cons] at hf; omega)
def distL (a : XAirspace) (to : Nat) : List Int := bfs (adjN a) a.configs.length 1000000 (start a.configs.length to) [to]
theorem dist_ok (a : XAirspace) (hn : a.configs.length ≤ 7) {to : Nat} (ht : to < a.configs.length) : Dist (adjN a) a.configs.length to (distL a to) := bfs_dist ht (by omega)
theorem rep10_1 : m42_slices_Repeatint_int_ [(-1)] ((1 : Nat) : Int) = some (List.replicate 1 (-1)) := by kernel_rfl
theorem rep10_2 : m42_slices_Repeatint_int_ [(-1)] ((2 : Nat) : Int) = some (List.replicate 2 (-1)) := by kernel_rfl
theorem rep10_3 : m42_slices_Repeatint_int_ [(-1)] ((3 : Nat) : Int) = some (List.replicate 3 (-1)) := by kernel_rfl
theorem rep10_4 : m42_slices_Repeatint_int_ [(-1)] ((4 : Nat) : Int) = some (List.replicate 4 (-1)) := by kernel_rfl
theorem rep10_5 : m42_slices_Repeatint_int_ [(-1)] ((5 : Nat) : Int) = some (List.replicate 5 (-1)) := by kernel_rfl
theorem rep10_6 : m42_slices_Repeatint_int_ [(-1)] ((6 : Nat) : Int) = some (List.replicate 6 (-1)) := by kernel_rfl
theorem rep10_7 : m42_slices_Repeatint_int_ [(-1)] ((7 : Nat) : Int) = some (List.replicate 7 (-1)) := by kernel_rfl
theorem rep10_eq (n : Nat) (h1 : 1 ≤ n) (h : n ≤ 7) : m42_slices_Repeatint_int_ [(-1)] (n : Int) = some (List.replicate n (-1)) := by
  have : n = 1 ∨ n = 2 ∨ n = 3 ∨ n = 4 ∨ n = 5 ∨ n = 6 ∨ n = 7 := by omega
  rcases this with rfl | rfl | rfl | rfl | rfl | rfl | rfl
  · exact rep10_1
  · exact rep10_2
  · exact rep10_3
  · exact rep10_4
  · exact rep10_5
  · exact rep10_6
  · exact rep10_7
theorem m34_eq (a : XAirspace) (L : LayOk a) (hn : a.configs.length ≤ 7) (to : Nat) (ht : to < a.configs.length) : m34_configs_distances (lay a) to = some (distL a to) := by
  unfold m34_configs_distances
  rw [L.len, rep10_eq _ L.nc1 hn, Option.bind_some, ck_eq (by simp; omega)]
  have hv := vc_le a.configs.length (start a.configs.length to)
  exact m34_loop a L hn 1000000 _ [to] (start_inv _ ht) (by simp only [List.length_cons, List.length_nil]; omega)
/-! the document's distances -/
end Go.Fx



set_option linter.unusedVariables false
set_option linter.unusedSimpArgs false
set_option maxRecDepth 100000
set_option maxHeartbeats 0
namespace Go.Fx
open Go Go.RowKit Go.Proofs
end Go.Fx



set_option linter.unusedVariables false
set_option linter.unusedSimpArgs false
set_option maxRecDepth 100000
set_option maxHeartbeats 0
namespace Go.Fx
open Go Go.RowKit Go.Proofs
end Go.Fx



/- Chapter 10: what is reached, ways, and what is stuck. -/
set_option linter.unusedSimpArgs false
set_option linter.unusedVariables false
namespace Go.Fx
open Go Go.RowKit
theorem distL_len (a : XAirspace) (hn : a.configs.length ≤ 7) {to : Nat} (ht : to < a.configs.length) : (distL a to).length = a.configs.length := (dist_ok a hn ht).len
def posL (a : XAirspace) (f : Nat) : List Nat := (List.range a.configs.length).filter fun i => decide (0 ≤ (distL a f).getD i default)
noncomputable def reachM (a : XAirspace) (f : Int) : List Int × Int := bif okB a && inR a f then (natI (posL a f.toNat), 0) else ([], 100)
theorem m17_loop (d : List Int) (hd : d.length ≤ 100) : loop2 (m17_configs_Reach_B0 d) (((d.length : Int) - 0).toNat + 1) [] 0 = some (natI ((List.range d.length).filter fun i => decide (0 ≤ d.getD i default)), 0) := by
  refine (up_listB (B := m17_configs_Reach_B0 d) (σ := List Int) (fun i s => s.length ≤ i) (fun i t s => some (s ++ natI ((List.range' i t.length).filter fun i => decide (0 ≤ d.getD i default)), 0)) d (by omega) ?_ ?_ (by omega) (Nat.le_refl _)).trans (by rw [List.range_eq_range']; rfl)
  · intro sf s _; unfold m17_configs_Reach_B0
    rw [decide_eq_false (Int.lt_irrefl _), cond_false]
    show _ = some (s ++ [], 0)
    rw [List.append_nil]
  · intro sf i s x t h1 h2 h3 hs ih
    unfold m17_configs_Reach_B0
    rw [show (x :: t).length = t.length + 1 from rfl, List.range'_succ, List.filter_cons]
    simp only [decide_eq_true (ipos h1), cond_true, h3, Int.toNat_natCast]
    rw [ck_eq (by omega)]
    by_cases e : 0 ≤ d.getD i default
    · rw [decide_eq_true e, cond_true, ck_eq (by simp; omega), ih _ (by simp; omega), if_pos rfl, List.append_assoc]; rfl
    · rw [decide_eq_false e, cond_false, ih _ (by omega)]; rfl
theorem inR_false1 {a : XAirspace} {n : Int} (h : n < 0) : inR a n = false := by unfold inR; rw [decide_eq_false (show ¬ 0 ≤ n by omega)]; rfl
theorem inR_false2 {a : XAirspace} {n : Int} (h : (a.configs.length : Int) ≤ n) : inR a n = false := by unfold inR; rw [decide_eq_false (show ¬ n < (a.configs.length : Int) by omega), Bool.and_false]
theorem m17_eq (a : XAirspace) (hf : Few10 a) (f : Int) : m17_configs_Reach a f = some (reachM a f) := by
  have hn := hf.nc
  unfold m17_configs_Reach reachM
  by_cases h : OKa a
  · obtain ⟨L, _⟩ := lay_ok hf h
    rw [m31_ok hf h, okB_true.2 h]
    simp only [Option.bind_some, jn_eq, Bool.not_true, cond_false, L.len, Bool.true_and]
    by_cases f1 : f < 0
    · rw [decide_eq_true f1, inR_false1 f1]; rfl
    by_cases f2 : (a.configs.length : Int) ≤ f
    · rw [decide_eq_false f1, decide_eq_true f2, inR_false2 f2]; rfl
    rw [decide_eq_false f1, decide_eq_false f2, inR_true.2 ⟨by omega, by omega⟩]
    obtain ⟨i, rfl⟩ : ∃ i : Nat, f = i := ⟨f.toNat, by omega⟩
    have hi : i < a.configs.length := by omega
    simp only [cond_false, cond_true, Int.toNat_natCast]
    have hd := distL_len a hn hi
    rw [m34_eq a L hn i hi, Option.bind_some, m17_loop _ (by omega), hd]
    rfl
  · rw [m31_bad hf h, okB_false h]; rfl
/-! ways -/
section ways
variable {a : XAirspace} {to : Nat} {d : List Int} (D : Dist (adjN a) a.configs.length to d)
include D
end ways
end Go.Fx



/- Chapter 10: what is stuck; who reaches whom. -/
set_option linter.unusedSimpArgs false
set_option linter.unusedVariables false
namespace Go.Fx
open Go Go.RowKit
theorem sane10 : m11_overflightlaw10_sane = some true := by kernel_rfl
theorem m21_eq (a b : List Int) (ha : a.length < 9223372036854775807) (hb : b.length < 9223372036854775807) : m21_overflightref10_SameInts a b = some (decide (a = b)) := by
  unfold m21_overflightref10_SameInts
  by_cases hl : a.length = b.length
  · rw [decide_eq_false (show ¬ ((a.length : Int) ≠ b.length) by omega), cond_false]
    refine (up_listI (B := m21_overflightref10_SameInts_B0 a b) (fun i t => some (decide (t = b.drop i))) a ha ?_ ?_ (by omega)).trans (by simp)
    · intro sf; unfold m21_overflightref10_SameInts_B0
      rw [decide_eq_false (Int.lt_irrefl _), cond_false, hl, List.drop_length]; rfl
    · intro sf i x t h1 h2 h3 ih
      obtain ⟨_, rfl⟩ := List.getElem?_eq_some_iff.1 h2
      unfold m21_overflightref10_SameInts_B0
      have g1 : a.getD (i : Int).toNat default = a[i] := by simp [h1]
      have hb' : i < b.length := by omega
      have g2 : b.getD (i : Int).toNat default = b[i] := by simp [hb']
      rw [decide_eq_true (ipos h1), cond_true, ck_eq (by omega), ck_eq (by omega), g1, g2, h3, ih, List.drop_eq_getElem_cons hb']
      by_cases e : a[i] = b[i]
      · rw [decide_eq_false (fun h => h e), cond_false, e]
        congr 1
        rw [Bool.eq_iff_iff, decide_eq_true_iff, decide_eq_true_iff]
        constructor
        · rintro rfl; rfl
        · intro h; exact (List.cons.inj h).2
      · rw [decide_eq_true e, cond_true, decide_eq_false]
        intro h; exact e (List.cons.inj h).1
  · rw [decide_eq_true (show (a.length : Int) ≠ b.length by omega), cond_true, decide_eq_false (fun e => hl (by rw [e]))]
theorem posL_len (a : XAirspace) (f : Nat) : (posL a f).length ≤ a.configs.length := by
  unfold posL; have := List.length_filter_le (fun i => decide (0 ≤ (distL a f).getD i default)) (List.range a.configs.length); rwa [List.length_range] at this
theorem reach_len (a : XAirspace) (f : Int) : (reachM a f).1.length ≤ a.configs.length := by
  unfold reachM; cases okB a && inR a f
  · exact Nat.zero_le _
  · rw [cond_true]; rw [natI_len]; exact posL_len _ _
/-! stuck -/
end Go.Fx



/- ConfigsOrder. -/
set_option linter.unusedSimpArgs false
set_option linter.unusedVariables false
namespace Go.Fx
open Go Go.RowKit
theorem m27_loop (l : List Int) (hl : l.length ≤ 100) : ∀ (k fuel : Nat) (x : List Int), k < fuel → k ≤ l.length → x.length + k ≤ 100 → loop2 (m27_overflightlaw10_ConfigsOrder_1_B0 l) fuel x ((k : Int) - 1) = some (x ++ (l.take k).reverse) := by
  intro k
  induction k with
  | zero =>
    intro fuel x hf hk hx
    obtain ⟨g, rfl⟩ : ∃ g, fuel = g + 1 := ⟨fuel - 1, by omega⟩
    rw [loop2_succ]
    unfold m27_overflightlaw10_ConfigsOrder_1_B0
    rw [decide_eq_false (show ¬ (0 : Int) ≤ ((0 : Nat) : Int) - 1 by omega)]
    simp
  | succ k ih =>
    intro fuel x hf hk hx
    obtain ⟨g, rfl⟩ : ∃ g, fuel = g + 1 := ⟨fuel - 1, by omega⟩
    rw [loop2_succ]
    have ih := fun x => ih g x (by omega) (by omega)
    generalize loop2 (m27_overflightlaw10_ConfigsOrder_1_B0 l) g = R at ih ⊢
    unfold m27_overflightlaw10_ConfigsOrder_1_B0
    rw [show ((k + 1 : Nat) : Int) - 1 = (k : Int) by omega]
    rw [decide_eq_true (show (0 : Int) ≤ (k : Int) by omega), cond_true, ck_eq (by omega), ck_eq (by simp; omega), wrap_i64 (by omega) (by omega), ih _ (by simp; omega)]
    rw [List.take_succ_eq_append_getElem (show k < l.length by omega), List.reverse_append, List.append_assoc]
    have g1 : l.getD (k : Int).toNat default = l[k] := by simp [show k < l.length by omega]
    rw [g1]; rfl
theorem m27_eq (l : List Int) (hl : l.length ≤ 50) : m27_overflightlaw10_ConfigsOrder_1 l = some l.reverse := by
  unfold m27_overflightlaw10_ConfigsOrder_1
  rw [wrap_i64 (by omega) (by omega), m27_loop l (by omega) l.length 1000000 [] (by omega) (Nat.le_refl _) (by simp; omega), List.take_length]
  rfl
def revS (s : XSector) : XSector := ⟨[], [], s.volumes.reverse, 0, 0⟩
def revC (c : XConfig) : XConfig := ⟨[], [], c.sectors.reverse⟩
def revA (a : XAirspace) : XAirspace := ⟨a.volumes, a.sectors.map revS, a.configs.map revC, [], [], [], [], []⟩
theorem rev_few {a : XAirspace} (F : Few10 a) : Few10 (revA a) := by
  refine ⟨F.nv, by show (a.sectors.map revS).length ≤ 12; rw [List.length_map]; exact F.ns, by show (a.configs.map revC).length ≤ 7; rw [List.length_map]; exact F.nc, fun s hs => ?_, fun c hc => ?_⟩
  · obtain ⟨s, hs2, rfl⟩ := List.mem_map.1 hs
    show s.volumes.reverse.length ≤ 10
    rw [List.length_reverse]; exact F.sl s hs2
  · obtain ⟨c, hc2, rfl⟩ := List.mem_map.1 hc
    show c.sectors.reverse.length ≤ 10
    rw [List.length_reverse]; exact F.cl c hc2
theorem idxOk_rev {b : Int} {l : List Int} (h : idxOk b l) : idxOk b l.reverse := ⟨fun v hv => h.1 v (List.mem_reverse.1 hv), (List.reverse_perm l).nodup_iff.2 h.2⟩
theorem rev_sec {a : XAirspace} (i : Nat) : ((revA a).sectors.getD i default).volumes = (a.sectors.getD i default).volumes.reverse := by
  show ((a.sectors.map revS).getD i default).volumes = _
  by_cases hi : i < a.sectors.length
  · rw [show (a.sectors.map revS).getD i default = revS a.sectors[i] by simp [hi], show a.sectors.getD i default = a.sectors[i] by simp [hi]]; rfl
  · rw [show (a.sectors.map revS).getD i default = default by simp [List.getD, List.getElem?_eq_none (show a.sectors.length ≤ i by omega)], show a.sectors.getD i default = default by simp [List.getD, List.getElem?_eq_none (show a.sectors.length ≤ i by omega)]]; rfl
theorem rev_has {a : XAirspace} (v : Nat) (s : Int) : hasV (revA a) v s = hasV a v s := by
  unfold hasV
  rw [rev_sec, Bool.eq_iff_iff, decide_eq_true_iff, decide_eq_true_iff, List.mem_reverse]
theorem divOk_rev {a : XAirspace} {c : List Int} (h : divOk a c) : divOk (revA a) c.reverse := by
  refine ⟨?_, fun v hv => ?_⟩
  · rw [show (revA a).sectors.length = a.sectors.length from List.length_map _]; exact idxOk_rev h.1
  · rw [show hasV (revA a) v = hasV a v from funext (rev_has v), List.countP_reverse]; exact h.2 v hv
theorem rev_ok {a : XAirspace} (h : OKa a) : OKa (revA a) := by
  refine ⟨h.nv1, by show 1 ≤ (a.configs.map revC).length; rw [List.length_map]; exact h.nc1, fun s hs => ?_, fun c hc => ?_⟩
  · obtain ⟨s, hs2, rfl⟩ := List.mem_map.1 hs
    exact ⟨fun e => (h.sec s hs2).1 (List.reverse_eq_nil_iff.1 e), idxOk_rev (h.sec s hs2).2⟩
  · obtain ⟨c, hc2, rfl⟩ := List.mem_map.1 hc
    exact divOk_rev (h.cfg c hc2)
theorem ris_ext {l m : List (Int × Bool)} (hl : Ris l) (hm : Ris m) (h : ∀ p, p ∈ l ↔ p ∈ m) : l = m := by
  refine mget_ext hl hm fun n => ?_
  cases e : mget l n with
  | some x => exact (mget_of hm ((h _).1 (mget_some e))).symm
  | none =>
    cases e2 : mget m n with
    | none => rfl
    | some x => rw [mget_of hl ((h _).2 (mget_some e2))] at e; cases e
theorem rev_lay {a : XAirspace} (F : Few10 a) (h : OKa a) : lay (revA a) = lay a := by
  obtain ⟨s1, m1, e1⟩ := divV_ok h
  obtain ⟨s2, m2, e2⟩ := divV_ok (rev_ok h)
  unfold lay
  rw [e1, e2]
  show (a.configs.map revC).map _ = a.configs.map _
  rw [List.map_map]
  refine List.map_congr_left fun c hc => ?_
  have hd := h.cfg c hc
  show putK s2 [] c.sectors.reverse = putK s1 [] c.sectors
  refine ris_ext (putK_ris List.Pairwise.nil) (putK_ris List.Pairwise.nil) fun p => ?_
  rw [putK_mem List.Pairwise.nil (by simp), putK_mem List.Pairwise.nil (by simp)]
  have hs : ∀ s ∈ c.sectors, s2.getD s.toNat 0 = s1.getD s.toNat 0 := fun s hs => by
    have hr := hd.1.1 s hs
    refine Nat.eq_of_testBit_eq fun w => ?_
    rw [m2.bit s.toNat (by show s.toNat < (a.sectors.map revS).length; rw [List.length_map]; omega), m1.bit s.toNat (by omega), rev_sec, Bool.eq_iff_iff, decide_eq_true_iff, decide_eq_true_iff, List.mem_reverse]
  simp only [List.not_mem_nil, false_or, List.mem_reverse]
  constructor
  · rintro ⟨s, hm, rfl⟩; exact ⟨s, hm, by rw [hs s hm]⟩
  · rintro ⟨s, hm, rfl⟩; exact ⟨s, hm, by rw [hs s hm]⟩
theorem rev_adj {a : XAirspace} (F : Few10 a) (h : OKa a) : adjN (revA a) = adjN a := by
  funext i j; unfold adjN; rw [rev_lay F h]
theorem rev_nc (a : XAirspace) : (revA a).configs.length = a.configs.length := List.length_map _
theorem rev_inR (a : XAirspace) (n : Int) : inR (revA a) n = inR a n := by unfold inR; rw [rev_nc]
theorem rev_dist {a : XAirspace} (F : Few10 a) (h : OKa a) (f : Nat) : distL (revA a) f = distL a f := by unfold distL; rw [rev_adj F h, rev_nc]
theorem rev_reach {a : XAirspace} (F : Few10 a) (h : OKa a) (f : Int) : reachM (revA a) f = reachM a f := by
  unfold reachM
  rw [okB_true.2 h, okB_true.2 (rev_ok h), rev_inR]
  unfold posL
  rw [rev_nc, rev_dist F h]
theorem rev_step {a : XAirspace} (F : Few10 a) (h : OKa a) (f t : Int) : stepM (revA a) f t = stepM a f t := by
  unfold stepM
  rw [okB_true.2 h, okB_true.2 (rev_ok h), rev_inR, rev_inR, rev_adj F h]
theorem find_rev {p : Int → Bool} {c : List Int} (h : ∀ s ∈ c, ∀ u ∈ c, p s = true → p u = true → s = u) : c.reverse.find? p = c.find? p := by
  cases e : c.find? p with
  | none =>
    rw [List.find?_eq_none] at e ⊢
    exact fun x hx => e x (List.mem_reverse.1 hx)
  | some s =>
    have hs := List.mem_of_find?_eq_some e
    have hp := List.find?_some e
    cases e2 : c.reverse.find? p with
    | none =>
      rw [List.find?_eq_none] at e2
      exact absurd hp (e2 s (List.mem_reverse.2 hs))
    | some u =>
      have hu := List.mem_reverse.1 (List.mem_of_find?_eq_some e2)
      rw [h s hs u hu hp (List.find?_some e2)]
theorem rev_sector {a : XAirspace} (F : Few10 a) (h : OKa a) (c v : Int) : sectorM (revA a) c v = sectorM a c v := by
  unfold sectorM
  rw [rev_nc]
  cases hc : decide (c < 0) || decide ((a.configs.length : Int) ≤ c)
  · simp only [cond_false]
    simp only [Bool.or_eq_false_iff, decide_eq_false_iff_not] at hc
    have hi : c.toNat < a.configs.length := by omega
    have e1 : (revA a).configs.getD c.toNat default = revC (a.configs.getD c.toNat default) := by
      show (a.configs.map revC).getD c.toNat default = _
      rw [show (a.configs.map revC).getD c.toNat default = revC a.configs[c.toNat] by simp [hi], show a.configs.getD c.toNat default = a.configs[c.toNat] by simp [hi]]
    rw [e1]
    have hd := h.cfg (a.configs.getD c.toNat default) (by rw [show a.configs.getD c.toNat default = a.configs[c.toNat] by simp [hi]]; exact List.getElem_mem _)
    show secOf (revA a) v (a.configs.getD c.toNat default).sectors.reverse = secOf a v (a.configs.getD c.toNat default).sectors
    generalize (a.configs.getD c.toNat default).sectors = C at hd
    unfold secOf
    have hp : (fun s : Int => decide (0 ≤ s) && (decide (s < ((revA a).sectors.length : Int)) && decide (v ∈ ((revA a).sectors.getD s.toNat default).volumes))) = (fun s : Int => decide (0 ≤ s) && (decide (s < (a.sectors.length : Int)) && decide (v ∈ (a.sectors.getD s.toNat default).volumes))) := by
      funext s
      rw [show (revA a).sectors.length = a.sectors.length from List.length_map _]
      congr 2
      rw [rev_sec, Bool.eq_iff_iff, decide_eq_true_iff, decide_eq_true_iff, List.mem_reverse]
    rw [hp, find_rev]
    intro s hs u hu h1 h2
    simp only [Bool.and_eq_true, decide_eq_true_eq] at h1 h2
    have hmem : a.sectors.getD s.toNat default ∈ a.sectors := by rw [show a.sectors.getD s.toNat default = a.sectors[s.toNat]'(by omega) by simp [show s.toNat < a.sectors.length by omega]]; exact List.getElem_mem _
    have hv := (h.sec _ hmem).2.1 v h1.2.2
    have hv' : ((v.toNat : Nat) : Int) = v := by omega
    refine has_uniq hd (v := v.toNat) (by omega) hs hu ?_ ?_
    · unfold hasV; rw [hv']; exact decide_eq_true h1.2.2
    · unfold hasV; rw [hv']; exact decide_eq_true h2.2.2
  · rfl
theorem ConfigsOrder_law (a : XAirspace) (f t v : Int) (ha : smXAirspace a) (h1 : InK .i64 f) (h2 : InK .i64 t) (h3 : InK .i64 v) : m10_overflightlaw10_ConfigsOrder a f t v = some true := by
  unfold m10_overflightlaw10_ConfigsOrder
  rw [sane10, m12_eq a ha]
  simp only [Option.bind_some, Bool.not_true, cond_false, jn_eq]
  cases hf : fewB a
  · rfl
  have F := Few10.of hf
  have hns := F.ns; have hnc := F.nc
  rw [m15_eq' a F]
  simp only [Option.bind_some, Bool.not_true, cond_false]
  by_cases hok : OKa a
  · rw [okB_true.2 hok]
    simp only [cond_true, ne_eq, not_true_eq_false, decide_false, cond_false]
    have last : ∀ fuel, a.configs.length < fuel → loop2 (m10_overflightlaw10_ConfigsOrder_B1 a f t v (a.sectors.map revS)) fuel 0 [] = some true := by
      intro fuel hfu
      refine up_listA (B := m10_overflightlaw10_ConfigsOrder_B1 a f t v (a.sectors.map revS)) (σ := List XConfig) (fun i s => s = (a.configs.take i).map revC) (fun _ _ _ => some true) a.configs (by omega) ?_ ?_ hfu rfl
      · rintro sf s rfl
        unfold m10_overflightlaw10_ConfigsOrder_B1
        rw [decide_eq_false (Int.lt_irrefl _), cond_false, List.take_length]
        show ((m17_configs_Reach a f).bind fun reach_1 => (m17_configs_Reach (revA a) f).bind _) = _
        have FR := rev_few F
        have hl := reach_len a f
        rw [m17_eq a F, m17_eq _ FR, rev_reach F hok, m13_eq a F]
        simp only [Option.bind_some, jn_eq]
        show ((m13_configs_Sector (revA a) t v).bind fun sector_2 => (m15_configs_Check (revA a)).bind fun check_1 => _) = _
        rw [m13_eq _ FR, rev_sector F hok, m15_eq' _ FR, okB_true.2 (rev_ok hok), m19_eq a F]
        simp only [Option.bind_some, cond_true, decide_true]
        show ((m19_configs_Step (revA a) f t).bind fun step_2 => _) = _
        rw [m19_eq _ FR, rev_step F hok, m21_eq _ _ (by omega) (by omega)]
        simp
      · rintro sf i s x l g1 g2 g3 rfl ih
        obtain ⟨_, rfl⟩ := List.getElem?_eq_some_iff.1 g2
        unfold m10_overflightlaw10_ConfigsOrder_B1
        have e1 : a.configs.getD (i : Int).toNat default = a.configs[i] := by simp [g1]
        have hc := F.cl _ (List.getElem_mem g1)
        rw [decide_eq_true (ipos g1), cond_true, ck_eq (by omega), e1]
        show ((m27_overflightlaw10_ConfigsOrder_1 a.configs[i].sectors).bind _) = _
        rw [m27_eq _ (by omega), Option.bind_some, ck_eq (by simp; omega), g3]
        refine ih _ ?_
        rw [List.take_succ_eq_append_getElem g1, List.map_append]; rfl
    refine up_listA (B := m10_overflightlaw10_ConfigsOrder_B0 a f t v) (σ := List XSector) (fun i s => s = (a.sectors.take i).map revS) (fun _ _ _ => some true) a.sectors (by omega) ?_ ?_ (by omega) rfl
    · rintro sf s rfl
      unfold m10_overflightlaw10_ConfigsOrder_B0
      rw [decide_eq_false (Int.lt_irrefl _), cond_false, List.take_length]
      exact last _ (by omega)
    · rintro sf i s x l g1 g2 g3 rfl ih
      obtain ⟨_, rfl⟩ := List.getElem?_eq_some_iff.1 g2
      unfold m10_overflightlaw10_ConfigsOrder_B0
      have e1 : a.sectors.getD (i : Int).toNat default = a.sectors[i] := by simp [g1]
      have hc := F.sl _ (List.getElem_mem g1)
      rw [decide_eq_true (ipos g1), cond_true, ck_eq (by omega), e1]
      show ((m27_overflightlaw10_ConfigsOrder_1 a.sectors[i].volumes).bind _) = _
      rw [m27_eq _ (by omega), Option.bind_some, ck_eq (by simp; omega), g3]
      refine ih _ ?_
      rw [List.take_succ_eq_append_getElem g1, List.map_append]; rfl
  · rw [okB_false hok]; rfl
end Go.Fx



namespace Go.Proofs.Ytolafciahogceaa.lawConfigsOrder
open Go Go.Proofs Go.ChangeShapes Go.WideShapes Go.ChangeAt Go.RowKit Go.Fx
open Go.ChangeMaps (open_string shut_string)
set_option linter.unusedVariables false
set_option maxRecDepth 100000
theorem own : ownKnob Try.prog.godebug = none := by kernel_rfl
theorem laidOut : laidOutB Try.prog = true := by kernel_rfl
set_option maxRecDepth 100000 in
set_option maxHeartbeats 1000000 in
theorem lifted (os : Os) (started : os.Started) (H : Type) (enc : TypeId × Value → H) :
    ReturnsInHanded {} Try.checked os 10 .any (Rows.configsOrderSpec.pre6 enc Try.prog Try.f10 Rows.configsOrderRow.domain false) (Rows.configsOrderSpec.post enc Try.prog Try.f10 false true false false) := by
  refine returnsInHanded_of_change_sized (C := Try.checked) own started (by kernel_rfl) Try.func10
    (ChangeSpec.witness6 (enc := enc) (C := Try.checked) false ⟨#[], #[.agg #[(.slice none 0 0), (.slice none 0 0), (.slice none 0 0), (.slice none 0 0), (.slice none 0 0), (.slice none 0 0), (.slice none 0 0), (.slice none 0 0)], (.int .i64 0), (.int .i64 0), (.int .i64 0)], []⟩ 8 (by kernel_rfl) (by kernel_rfl) (by kernel_rfl) (by kernel_rfl)) ?_
  intro W base args ds gs before hval0 hW hcnd hsz _
  have hval : ∀ (j : Nat) t v, Try.f10.params[j]? = some t → args[j]? = some v → Value.okWide Try.prog W .any base t v := hval0
  have hW' := hW
  obtain ⟨p, q, hA0, hV, rfl, hfz, hnd⟩ := hW
  have hA : DataW.TrodAll enc Try.prog W 0 (fun _ => true) true Try.f10.params.toList args.toList ds p := hA0
  rw [Try.params10] at hA hval
  obtain ⟨v0, vs0, d0, ds0, p0, q0, hargs, rfl, rfl, h0, r0⟩ := trodAll_cons hA
  obtain ⟨v1, vs1, d1, ds1, p1, q1, rfl, rfl, rfl, h1, r1⟩ := trodAll_cons r0
  obtain ⟨v2, vs2, d2, ds2, p2, q2, rfl, rfl, rfl, h2, r2⟩ := trodAll_cons r1
  obtain ⟨v3, vs3, d3, ds3, p3, q3, rfl, rfl, rfl, h3, r3⟩ := trodAll_cons r2
  obtain ⟨rfl, rfl, rfl⟩ := trodAll_nil r3
  obtain rfl : args = #[v0, v1, v2, v3] := by cases args; simp_all
  obtain ⟨rfl, rfl⟩ := trodVars_none hV
  have k0 := h0
  have lt0 : ∀ x ∈ p0, x.block < W.heap.size := by obtain ⟨m, hm⟩ := k0; exact DataW.trod_lt m _ _ _ hm
  obtain ⟨fu0, hf0⟩ := h0
  obtain ⟨a, rr0, sm0⟩ := rd31.2 _ _ _ hf0
  replace sm0 := sm0 (fun n hn => by have := List.all_eq_true.1 hsz n (DataW.weights_mem_each (j := 0) (t := 31) rfl rfl n hn); simpa using this)
  obtain ⟨⟨cs0⟩, rfl, _⟩ := okWide_struct Try.underlying31 (hval 0 31 v0 rfl rfl)
  replace rr0 : rXAirspace.rd W [] cs0 a := rr0
  obtain ⟨_, _, rfl, ⟨a_a_volumes, c_a_volumes, rfl, f_a_volumes⟩, ⟨_, _, rfl, ⟨a_a_sectors, c_a_sectors, rfl, f_a_sectors⟩, ⟨_, _, rfl, ⟨a_a_configs, c_a_configs, rfl, f_a_configs⟩, ⟨_, _, rfl, ⟨a_a_segments, c_a_segments, rfl, f_a_segments⟩, ⟨_, _, rfl, ⟨a_a_routes, c_a_routes, rfl, f_a_routes⟩, ⟨_, _, rfl, ⟨a_a_airports, c_a_airports, rfl, f_a_airports⟩, ⟨_, _, rfl, ⟨a_a_classes, c_a_classes, rfl, f_a_classes⟩, ⟨a_a_rules, c_a_rules, rfl, f_a_rules⟩⟩⟩⟩⟩⟩⟩⟩ := rr0
  have k1 := h1
  have lt1 : ∀ x ∈ p1, x.block < W.heap.size := by obtain ⟨m, hm⟩ := k1; exact DataW.trod_lt m _ _ _ hm
  obtain ⟨fu1, hf1⟩ := h1
  obtain ⟨from_, rr1, sm1⟩ := rd3.2 _ _ _ hf1
  replace sm1 := sm1 (fun n hn => by have := List.all_eq_true.1 hsz n (DataW.weights_mem_each (j := 1) (t := 3) rfl rfl n hn); simpa using this)
  obtain ⟨n1, rfl⟩ := okWide_int Try.underlying3 (hval 1 3 v1 rfl rfl)
  replace rr1 : (rInt .i64).rd W [] [.int .i64 n1] from_ := rr1
  obtain ⟨e1, r_from_⟩ := un_int rr1
  obtain rfl : from_ = n1 := by simpa using e1.symm
  have k2 := h2
  have lt2 : ∀ x ∈ p2, x.block < W.heap.size := by obtain ⟨m, hm⟩ := k2; exact DataW.trod_lt m _ _ _ hm
  obtain ⟨fu2, hf2⟩ := h2
  obtain ⟨to, rr2, sm2⟩ := rd3.2 _ _ _ hf2
  replace sm2 := sm2 (fun n hn => by have := List.all_eq_true.1 hsz n (DataW.weights_mem_each (j := 2) (t := 3) rfl rfl n hn); simpa using this)
  obtain ⟨n2, rfl⟩ := okWide_int Try.underlying3 (hval 2 3 v2 rfl rfl)
  replace rr2 : (rInt .i64).rd W [] [.int .i64 n2] to := rr2
  obtain ⟨e2, r_to⟩ := un_int rr2
  obtain rfl : to = n2 := by simpa using e2.symm
  have k3 := h3
  have lt3 : ∀ x ∈ p3, x.block < W.heap.size := by obtain ⟨m, hm⟩ := k3; exact DataW.trod_lt m _ _ _ hm
  obtain ⟨fu3, hf3⟩ := h3
  obtain ⟨volume, rr3, sm3⟩ := rd3.2 _ _ _ hf3
  replace sm3 := sm3 (fun n hn => by have := List.all_eq_true.1 hsz n (DataW.weights_mem_each (j := 3) (t := 3) rfl rfl n hn); simpa using this)
  obtain ⟨n3, rfl⟩ := okWide_int Try.underlying3 (hval 3 3 v3 rfl rfl)
  replace rr3 : (rInt .i64).rd W [] [.int .i64 n3] volume := rr3
  obtain ⟨e3, r_volume⟩ := un_int rr3
  obtain rfl : volume = n3 := by simpa using e3.symm
  have hm : m10_overflightlaw10_ConfigsOrder a from_ to volume = some true := ConfigsOrder_law _ _ _ _ sm0 sm1 sm2 sm3
  have hc := Fn.calls (c10_overflightlaw10_ConfigsOrder (a := a) (from_ := from_) (to := to) (volume := volume) (w := W) (O := []) (by simp) f_a_volumes f_a_sectors f_a_configs f_a_segments f_a_routes f_a_airports f_a_classes f_a_rules r_from_ r_to r_volume hm)
  clear hA0 hval0
  refine Calls.mono hc ?_
  rintro e W' ⟨v, rfl, bel, hv⟩
  replace bel := bel.below; obtain rfl : v = .bool true := hv
  exact ⟨_, rfl, _, _, _, [], _, [], hW', trodAll_mk1 (shut_bool Try.underlying4 _), (trodAll_cons_mk (Below.trod laidOut (by kernel_rfl) (of_decide_eq_true (by kernel_rfl)) k0 bel lt0) (trodAll_cons_mk (Below.trod laidOut (by kernel_rfl) (of_decide_eq_true (by kernel_rfl)) k1 bel lt1) (trodAll_cons_mk (Below.trod laidOut (by kernel_rfl) (of_decide_eq_true (by kernel_rfl)) k2 bel lt2) (trodAll_cons_mk (Below.trod laidOut (by kernel_rfl) (of_decide_eq_true (by kernel_rfl)) k3 bel lt3) trodAll_mk0)))), rfl, bel.frame _, fun h => by cases h⟩
theorem over : Rows.configsOrderRow.holds Try.pinned (OpenSpec.ofChange Rows.configsOrderSpec) :=
  OpenClaim.holds_of_wide 10 Try.f10 rfl rfl rfl rfl rfl rfl rfl ⟨rfl, rfl, rfl, rfl, rfl⟩ rfl rfl rfl rfl rfl (by kernel_rfl) Try.func10 (by kernel_rfl)
    (of_decide_eq_true (by kernel_rfl)) (by unfold Func.isWrapper; first | (rw [if_pos (by decide +kernel)]; kernel_rfl) | (rw [if_neg (by decide +kernel)]; exact ⟨rfl, rfl⟩))
    (fun os started H enc _ => lifted os started H enc)
theorem proved : Rows.ConfigsOrderSaid := over
end Go.Proofs.Ytolafciahogceaa.lawConfigsOrder


