/- Part 5 of the proof: path and Stuck of chapter 10 match the specification, for every airspace and two configurations. -/
import Derived.Test.YtolafciahogceaaPath4
set_option linter.unusedVariables false
set_option linter.unusedSimpArgs false
set_option maxRecDepth 100000
set_option maxHeartbeats 0
namespace Go.Fx
open Go Go.RowKit Go.Proofs
def m14_overflightref10_Sector_B0 (a : XAirspace) (konfig : Int) (volume : Int) (sf28 : Int → Option (Int × Bool)) (i_1 : Int) : Option (Int × Bool) :=
 bif (decide (i_1 < (((a.configs.getD konfig.toNat default).sectors).length : Int))) then
  jn (fun (v_2 : Bool) =>
   bif v_2 then
    ck ((0 : Int) ≤ i_1 ∧ i_1 < (((a.configs.getD konfig.toNat default).sectors).length : Int)) <|
    some ((((a.configs.getD konfig.toNat default).sectors).getD i_1.toNat default), true)
   else
    sf28 (IntKind.wrap .i64 (i_1 + 1)))
  (fun k41 =>
   ck ((0 : Int) ≤ i_1 ∧ i_1 < (((a.configs.getD konfig.toNat default).sectors).length : Int)) <|
   bif (decide (0 ≤ (((a.configs.getD konfig.toNat default).sectors).getD i_1.toNat default))) then
    ck ((0 : Int) ≤ i_1 ∧ i_1 < (((a.configs.getD konfig.toNat default).sectors).length : Int)) <|
    bif (decide ((((a.configs.getD konfig.toNat default).sectors).getD i_1.toNat default) < (a.sectors.length : Int))) then
     ck ((0 : Int) ≤ i_1 ∧ i_1 < (((a.configs.getD konfig.toNat default).sectors).length : Int)) <|
     ck ((0 : Int) ≤ (((a.configs.getD konfig.toNat default).sectors).getD i_1.toNat default) ∧ (((a.configs.getD konfig.toNat default).sectors).getD i_1.toNat default) < (a.sectors.length : Int)) <|
     (m30_overflightref10_has ((a.sectors.getD (((a.configs.getD konfig.toNat default).sectors).getD i_1.toNat default).toNat default).volumes) volume).bind fun has_1 =>
     k41 has_1
    else
     k41 false
   else
    k41 false)
 else
  some (0, false)

def m14_overflightref10_Sector (a : XAirspace) (konfig : Int) (volume : Int) : Option (Int × Bool) :=
 jn (fun (v_1 : Bool) =>
  bif v_1 then
   some (0, false)
  else
   ck ((0 : Int) ≤ konfig ∧ konfig < (a.configs.length : Int)) <|
   loop1 (m14_overflightref10_Sector_B0 a konfig volume) (((((a.configs.getD konfig.toNat default).sectors).length : Int) - 0).toNat + 1) 0)
 (fun k8 =>
  bif (decide (konfig < 0)) then
   k8 true
  else
   k8 (decide ((a.configs.length : Int) ≤ konfig)))

theorem c14_overflightref10_Sector {w : World} {O : List Nat} {a : XAirspace} {konfig : Int} {volume : Int} {a_a_volumes : Option Addr} {c_a_volumes : Nat} {a_a_sectors : Option Addr} {c_a_sectors : Nat} {a_a_configs : Option Addr} {c_a_configs : Nat} {a_a_segments : Option Addr} {c_a_segments : Nat} {a_a_routes : Option Addr} {c_a_routes : Nat} {a_a_airports : Option Addr} {c_a_airports : Nat} {a_a_classes : Option Addr} {c_a_classes : Nat} {a_a_rules : Option Addr} {c_a_rules : Nat} (hO : ∀ k ∈ O, k < w.heap.size) (f_a_volumes : SlR rXVolume w O a_a_volumes c_a_volumes a.volumes) (f_a_sectors : SlR rXSector w O a_a_sectors c_a_sectors a.sectors) (f_a_configs : SlR rXConfig w O a_a_configs c_a_configs a.configs) (f_a_segments : SlR rXSegment w O a_a_segments c_a_segments a.segments) (f_a_routes : SlR rXRoute w O a_a_routes c_a_routes a.routes) (f_a_airports : SlR rXAirport w O a_a_airports c_a_airports a.airports) (f_a_classes : SlR rXClass w O a_a_classes c_a_classes a.classes) (f_a_rules : SlR rXRule w O a_a_rules c_a_rules a.rules) (r_config : InK .i64 konfig) (r_volume : InK .i64 volume) {x : Int × Bool} (hm : m14_overflightref10_Sector a konfig volume = some x) :
  Ok Try.prog 14 [(Value.agg [(Value.slice a_a_volumes a.volumes.length c_a_volumes), (Value.slice a_a_sectors a.sectors.length c_a_sectors), (Value.slice a_a_configs a.configs.length c_a_configs), (Value.slice a_a_segments a.segments.length c_a_segments), (Value.slice a_a_routes a.routes.length c_a_routes), (Value.slice a_a_airports a.airports.length c_a_airports), (Value.slice a_a_classes a.classes.length c_a_classes), (Value.slice a_a_rules a.rules.length c_a_rules)].toArray), (Value.int .i64 konfig), (Value.int .i64 volume)] w O (vT2 (vI .i64) vB) x := by
 unfold m14_overflightref10_Sector at hm
 refine Fn_of_Wp (n := 63) (xs := [.tmp 6, .tmp 7]) Try.func14 rfl Try.ntmps14 Try.results14 rfl ?_
 have hs := St.start hO
 refine Wp_seq ?_
 refine Wp_region ?_
 refine Rg_op rfl (op_box (cs := [(Value.slice a_a_volumes a.volumes.length c_a_volumes), (Value.slice a_a_sectors a.sectors.length c_a_sectors), (Value.slice a_a_configs a.configs.length c_a_configs), (Value.slice a_a_segments a.segments.length c_a_segments), (Value.slice a_a_routes a.routes.length c_a_routes), (Value.slice a_a_airports a.airports.length c_a_airports), (Value.slice a_a_classes a.classes.length c_a_classes), (Value.slice a_a_rules a.rules.length c_a_rules)]) hs rfl rfl ?_)
 intro b1 w2 _ p3 hs4
 replace f_a_volumes := f_a_volumes.step p3; replace f_a_sectors := f_a_sectors.step p3; replace f_a_configs := f_a_configs.step p3; replace f_a_segments := f_a_segments.step p3; replace f_a_routes := f_a_routes.step p3; replace f_a_airports := f_a_airports.step p3; replace f_a_classes := f_a_classes.step p3; replace f_a_rules := f_a_rules.step p3; clear p3
 refine Rg_op rfl (op_assign (v := (Value.int .i64 0)) rfl ?_)
 refine Rg_op rfl (op_assign (v := (Value.bool false)) rfl ?_)
 refine Rg_nil ?_
 refine Wp_seq ?_
 refine Wp_reset [] [(1, (Value.int .i64 konfig)), (2, (Value.int .i64 volume)), (3, (Value.pointer (some ⟨b1, 0, none⟩)))] rfl ⟨rfl, rfl, rfl, trivial⟩ fun ξ6 => ?_
 replace hm := jn_elim hm; obtain ⟨k8, hk9, hm⟩ := hm
 refine Wp_seqJ [10, 11, 12, 13, 14, 15, 16, 17, 18] (fun fr w' => ∃ (v_1 : Bool) (Ebs : Ents), Ebs = [(some b1, Obj.cells [(Value.slice a_a_volumes a.volumes.length c_a_volumes), (Value.slice a_a_sectors a.sectors.length c_a_sectors), (Value.slice a_a_configs a.configs.length c_a_configs), (Value.slice a_a_segments a.segments.length c_a_segments), (Value.slice a_a_routes a.routes.length c_a_routes), (Value.slice a_a_airports a.airports.length c_a_airports), (Value.slice a_a_classes a.classes.length c_a_classes), (Value.slice a_a_rules a.rules.length c_a_rules)].toArray 31)] ∧ fr [] [(18, (Value.bool v_1))] ∧ Step (ks [(some b1, Obj.cells [(Value.slice a_a_volumes a.volumes.length c_a_volumes), (Value.slice a_a_sectors a.sectors.length c_a_sectors), (Value.slice a_a_configs a.configs.length c_a_configs), (Value.slice a_a_segments a.segments.length c_a_segments), (Value.slice a_a_routes a.routes.length c_a_routes), (Value.slice a_a_airports a.airports.length c_a_airports), (Value.slice a_a_classes a.classes.length c_a_classes), (Value.slice a_a_rules a.rules.length c_a_rules)].toArray 31)] O) w2 (ks Ebs O) w' ∧ St ⟨w, [], []⟩ O w' Ebs ∧ k8 v_1 = some x) ?_ ?_
 ·
  rintro ρ15 w11 ⟨v_1, Ebs, hEbs, hfr14, hst13, hs12, hm⟩
  replace hm := jnE1 hk9 hm
  subst hEbs; rw [hfr14.eq]; clear hfr14
  replace f_a_volumes := f_a_volumes.step hst13; replace f_a_sectors := f_a_sectors.step hst13; replace f_a_configs := f_a_configs.step hst13; replace f_a_segments := f_a_segments.step hst13; replace f_a_routes := f_a_routes.step hst13; replace f_a_airports := f_a_airports.step hst13; replace f_a_classes := f_a_classes.step hst13; replace f_a_rules := f_a_rules.step hst13; clear hst13 hs4
  refine Wp_cond rfl (fun hc16 => ?_) (fun hc16 => ?_)
  ·
   replace hm := bif_t hm hc16
   refine Wp_seq ?_
   obtain ⟨hs17, p18⟩ := hs12.sub (bs' := []) (.cons _ List.Sublist.slnil)
   clear f_a_volumes f_a_sectors f_a_configs f_a_segments f_a_routes f_a_airports f_a_classes f_a_rules
   clear p18 hs12
   refine Wp_region ?_
   refine Rg_op rfl (op_assign (v := (Value.int .i64 0)) rfl ?_)
   refine Rg_op rfl (op_assign (v := (Value.bool false)) rfl ?_)
   refine Rg_nil ?_
   refine Wp_ret ?_
   have hz := step_all hs17
   refine ⟨_, (show Closes [] _ _ from rfl), [(Value.int .i64 0), (Value.bool false)], ⟨rfl, rfl, trivial⟩, hs17.ext, ?_⟩
   exact Vr.eq (a := (vT2 (vI .i64) vB)) (x := (0, false)) (mkT2 ⟨rfl, (show InK .i64 0 from by decide)⟩ rfl) (Option.some.inj hm)
  ·
   replace hm := bif_f hm hc16
   refine Wp_skip ?_
   refine Wp_seq ?_
   refine Wp_region ?_
   refine Rg_op rfl (op_fieldAddr ty31 rfl ty24 (by decide) rfl (rfl : _ = (⟨_, 2, none⟩ : Addr)) ?_)
   refine Rg_op rfl (op_load (cs := [(Value.slice a_a_volumes a.volumes.length c_a_volumes), (Value.slice a_a_sectors a.sectors.length c_a_sectors), (Value.slice a_a_configs a.configs.length c_a_configs), (Value.slice a_a_segments a.segments.length c_a_segments), (Value.slice a_a_routes a.routes.length c_a_routes), (Value.slice a_a_airports a.airports.length c_a_airports), (Value.slice a_a_classes a.classes.length c_a_classes), (Value.slice a_a_rules a.rules.length c_a_rules)]) (i := 0) ty24 hs12 rfl rfl rfl ?_)
   refine Rg_op rfl (op_move (v := (Value.int .i64 konfig)) rfl ?_)
   replace hm := ck_some hm; obtain ⟨hc19, hm⟩ := hm
   refine Rg_op rfl (op_indexAddr (q := rXConfig) ty24 ty52 rfl rfl f_a_configs rfl hc19.1 hc19.2 ?_)
   intro p20 f21
   refine Rg_op rfl (op_fieldAddr ty52 rfl ty39 (by decide) rfl rfl ?_)
   have f22 := f21.via.snd.snd
   refine Rg_op rfl (op_loadP ty39 rfl f22 rfl ?_)
   intro v23 h24
   obtain ⟨a_y25, c_y25, rfl, f_y25⟩ := un_sl h24
   refine Rg_op rfl (op_assign (v := (Value.slice a_y25 ((a.configs.getD konfig.toNat default).sectors).length c_y25)) rfl ?_)
   refine Rg_nil ?_
   refine Wp_seq ?_
   refine Wp_seq ?_
   clear f21 f22
   refine Wp_region ?_
   refine Rg_op rfl (op_assign (v := (Value.int .i64 0)) rfl ?_)
   refine Rg_nil ?_
   refine Wp_block ?_
   refine Wp_reset [] [(2, (Value.int .i64 volume)), (3, (Value.pointer (some ⟨b1, 0, none⟩))), (8, (Value.slice a_y25 ((a.configs.getD konfig.toNat default).sectors).length c_y25)), (9, (Value.int .i64 0))] rfl ⟨rfl, rfl, rfl, rfl, trivial⟩ fun ξ27 => ?_
   refine Wp_loopM [6, 7, 9, 25, 26, 27, 28, 29, 30, 31, 32, 33, 34, 35, 36, 37, 38, 39, 40, 41, 42, 43, 44, 45, 46, 47, 48, 49, 50, 51, 52, 53, 54, 55, 56, 57, 58, 59, 60, 61, 62] (fun m fr w' => ∃ (i_1 : Int) (Ebs : Ents), Ebs = [(some b1, Obj.cells [(Value.slice a_a_volumes a.volumes.length c_a_volumes), (Value.slice a_a_sectors a.sectors.length c_a_sectors), (Value.slice a_a_configs a.configs.length c_a_configs), (Value.slice a_a_segments a.segments.length c_a_segments), (Value.slice a_a_routes a.routes.length c_a_routes), (Value.slice a_a_airports a.airports.length c_a_airports), (Value.slice a_a_classes a.classes.length c_a_classes), (Value.slice a_a_rules a.rules.length c_a_rules)].toArray 31)] ∧ fr [] [(9, (Value.int .i64 i_1))] ∧ Step (ks [(some b1, Obj.cells [(Value.slice a_a_volumes a.volumes.length c_a_volumes), (Value.slice a_a_sectors a.sectors.length c_a_sectors), (Value.slice a_a_configs a.configs.length c_a_configs), (Value.slice a_a_segments a.segments.length c_a_segments), (Value.slice a_a_routes a.routes.length c_a_routes), (Value.slice a_a_airports a.airports.length c_a_airports), (Value.slice a_a_classes a.classes.length c_a_classes), (Value.slice a_a_rules a.rules.length c_a_rules)].toArray 31)] O) w11 (ks Ebs O) w' ∧ St ⟨w, [], []⟩ O w' Ebs ∧ InK .i64 i_1 ∧ loop1 (m14_overflightref10_Sector_B0 a konfig volume) m i_1 = some x) (((((a.configs.getD konfig.toNat default).sectors).length : Int) - 0).toNat + 1) ⟨0, _, rfl, ⟨Out.refl _ _, rfl, rfl, trivial⟩, Step.refl _ _, hs12, (show InK .i64 0 from by decide), hm⟩ ?_ ?_
   · rintro _ _ ⟨_, _, _, _, _, _, _, hm⟩; exact loop1_z hm
   ·
    rintro m31 K30 hK30 ρ36 w32 ⟨i_1, Ebs, hEbs, hfr35, hst34, hs33, r_y26, hm⟩
    obtain ⟨sf28, hsf29, hm⟩ := loop1_s hm; unfold m14_overflightref10_Sector_B0 at hm
    subst hEbs; rw [hfr35.eq]; clear hfr35
    replace f_a_volumes := f_a_volumes.step hst34; replace f_a_sectors := f_a_sectors.step hst34; replace f_a_configs := f_a_configs.step hst34; replace f_a_segments := f_a_segments.step hst34; replace f_a_routes := f_a_routes.step hst34; replace f_a_airports := f_a_airports.step hst34; replace f_a_classes := f_a_classes.step hst34; replace f_a_rules := f_a_rules.step hst34; replace f_y25 := f_y25.step hst34
    have ch37 := hst34
    refine Wp_seq ?_
    refine Wp_seq ?_
    refine Wp_region ?_
    refine Rg_op rfl (op_move (v := (Value.int .i64 i_1)) rfl ?_)
    refine Rg_op rfl (op_move (v := (Value.slice a_y25 ((a.configs.getD konfig.toNat default).sectors).length c_y25)) rfl ?_)
    refine Rg_op rfl (op_len Try.underlying39 rfl ?_)
    refine Rg_op rfl (op_lss rfl rfl ?_)
    refine Rg_nil ?_
    refine Wp_cond rfl (fun hc38 => ?_) (fun hc38 => ?_)
    ·
     replace hm := bif_t hm hc38
     refine Wp_skip ?_
     refine Wp_seq ?_
     refine Wp_block ?_
     refine Wp_reset2 [6, 7, 9, 25, 26, 27, 28, 29, 30, 31, 32, 33, 34, 35, 36, 37, 38, 39, 40, 41, 42, 43, 44, 45, 46, 47, 48, 49, 50, 51, 52, 53, 54, 55, 56, 57, 58, 59, 60, 61, 62] [] (updL ⟨ξ27, []⟩ [(2, (Value.int .i64 volume)), (3, (Value.pointer (some ⟨b1, 0, none⟩))), (8, (Value.slice a_y25 ((a.configs.getD konfig.toNat default).sectors).length c_y25)), (9, (Value.int .i64 0))]) [(9, (Value.int .i64 i_1))] (by repeat (first | with_reducible exact Out.refl _ _ | refine Out.upd ?_ rfl | refine Out.updL ?_ rfl | refine Out.mix' ?_ rfl | exact Out.refl _ _)) rfl ⟨rfl, trivial⟩ fun ξ39 => ?_
     replace hm := jn_elim hm; obtain ⟨k41, hk42, hm⟩ := hm
     refine Wp_seqJ [31, 32, 33, 34, 35, 36, 37, 38, 39, 40, 41, 42, 43, 44, 45, 46, 47, 48, 49, 50, 51, 52, 53, 54, 55, 56, 57, 58] (fun fr w' => ∃ (v_2 : Bool) (Ebs : Ents), Ebs = [(some b1, Obj.cells [(Value.slice a_a_volumes a.volumes.length c_a_volumes), (Value.slice a_a_sectors a.sectors.length c_a_sectors), (Value.slice a_a_configs a.configs.length c_a_configs), (Value.slice a_a_segments a.segments.length c_a_segments), (Value.slice a_a_routes a.routes.length c_a_routes), (Value.slice a_a_airports a.airports.length c_a_airports), (Value.slice a_a_classes a.classes.length c_a_classes), (Value.slice a_a_rules a.rules.length c_a_rules)].toArray 31)] ∧ fr [] [(58, (Value.bool v_2))] ∧ Step (ks [(some b1, Obj.cells [(Value.slice a_a_volumes a.volumes.length c_a_volumes), (Value.slice a_a_sectors a.sectors.length c_a_sectors), (Value.slice a_a_configs a.configs.length c_a_configs), (Value.slice a_a_segments a.segments.length c_a_segments), (Value.slice a_a_routes a.routes.length c_a_routes), (Value.slice a_a_airports a.airports.length c_a_airports), (Value.slice a_a_classes a.classes.length c_a_classes), (Value.slice a_a_rules a.rules.length c_a_rules)].toArray 31)] O) w32 (ks Ebs O) w' ∧ St ⟨w, [], []⟩ O w' Ebs ∧ k41 v_2 = some x) ?_ ?_
     ·
      rintro ρ48 w44 ⟨v_2, Ebs, hEbs, hfr47, hst46, hs45, hm⟩
      replace hm := jnE1 hk42 hm
      subst hEbs; rw [hfr47.eq]; clear hfr47
      replace f_a_volumes := f_a_volumes.step hst46; replace f_a_sectors := f_a_sectors.step hst46; replace f_a_configs := f_a_configs.step hst46; replace f_a_segments := f_a_segments.step hst46; replace f_a_routes := f_a_routes.step hst46; replace f_a_airports := f_a_airports.step hst46; replace f_a_classes := f_a_classes.step hst46; replace f_a_rules := f_a_rules.step hst46; replace f_y25 := f_y25.step hst46; replace ch37 := ch37.trans hst46; clear hst46 hs33
      refine Wp_cond rfl (fun hc49 => ?_) (fun hc49 => ?_)
      ·
       replace hm := bif_t hm hc49
       refine Wp_seq ?_
       refine Wp_region ?_
       refine Rg_op rfl (op_move (v := (Value.slice a_y25 ((a.configs.getD konfig.toNat default).sectors).length c_y25)) rfl ?_)
       refine Rg_op rfl (op_move (v := (Value.int .i64 i_1)) rfl ?_)
       replace hm := ck_some hm; obtain ⟨hc50, hm⟩ := hm
       refine Rg_op rfl (op_indexAddr (q := (rInt .i64)) ty39 ty3 rfl rfl f_y25 rfl hc50.1 hc50.2 ?_)
       intro p51 f52
       refine Rg_op rfl (op_loadP ty3 rfl f52 rfl ?_)
       intro v53 h54
       obtain ⟨rfl, r_y55⟩ := un_int h54
       refine Rg_op rfl (op_assign (v := (Value.int .i64 (((a.configs.getD konfig.toNat default).sectors).getD i_1.toNat default))) rfl ?_)
       refine Rg_op rfl (op_assign (v := (Value.bool true)) rfl ?_)
       refine Rg_nil ?_
       refine Wp_ret ?_
       have hz := step_all hs45
       replace f_a_volumes := f_a_volumes.step hz; replace f_a_sectors := f_a_sectors.step hz; replace f_a_configs := f_a_configs.step hz; replace f_a_segments := f_a_segments.step hz; replace f_a_routes := f_a_routes.step hz; replace f_a_airports := f_a_airports.step hz; replace f_a_classes := f_a_classes.step hz; replace f_a_rules := f_a_rules.step hz; replace f_y25 := f_y25.step hz; replace f52 := f52.step hz
       refine ⟨_, (show Closes [] _ _ from rfl), [(Value.int .i64 (((a.configs.getD konfig.toNat default).sectors).getD i_1.toNat default)), (Value.bool true)], ⟨rfl, rfl, trivial⟩, hs45.ext, ?_⟩
       exact Vr.eq (a := (vT2 (vI .i64) vB)) (x := ((((a.configs.getD konfig.toNat default).sectors).getD i_1.toNat default), true)) (mkT2 ⟨rfl, r_y55⟩ rfl) (Option.some.inj hm)
      ·
       replace hm := bif_f hm hc49
       refine Wp_skip ?_
       refine Wp_region ?_
       refine Rg_op rfl (op_move (v := (Value.int .i64 i_1)) rfl ?_)
       refine Rg_op rfl (op_addw rfl rfl ?_)
       refine Rg_op rfl (op_assign (v := (Value.int .i64 (IntKind.wrap .i64 (i_1 + 1)))) rfl ?_)
       refine Rg_nil ?_
       exact hK30 _ _ ⟨(IntKind.wrap .i64 (i_1 + 1)), _, rfl, ⟨(by repeat (first | with_reducible exact Out.refl _ _ | refine Out.upd ?_ rfl | refine Out.updL ?_ rfl | refine Out.mix' ?_ rfl | exact Out.refl _ _)), rfl, rfl, trivial⟩, ch37, hs45, (inK_wrap .i64 _), jnE1 hsf29 hm⟩
     ·
      intro K43 hK43
      have ch56 := Step.refl (ks [(some b1, Obj.cells [(Value.slice a_a_volumes a.volumes.length c_a_volumes), (Value.slice a_a_sectors a.sectors.length c_a_sectors), (Value.slice a_a_configs a.configs.length c_a_configs), (Value.slice a_a_segments a.segments.length c_a_segments), (Value.slice a_a_routes a.routes.length c_a_routes), (Value.slice a_a_airports a.airports.length c_a_airports), (Value.slice a_a_classes a.classes.length c_a_classes), (Value.slice a_a_rules a.rules.length c_a_rules)].toArray 31)] O) w32
      refine Wp_drawR (g0 := []) (m := 26) (fl := []) (TS_inv hs33) (.inl rfl) rfl (by decide +kernel) ?_  -- 7
      refine Dw_eq (Value.slice a_y25 ((a.configs.getD konfig.toNat default).sectors).length c_y25) (fun ρ57 w58 g hle hi ht => ?_) ?_
      ·
       obtain ⟨-, hst, -⟩ := hle
       refine StepOp_plain (op_move (v := (Value.slice a_y25 ((a.configs.getD konfig.toNat default).sectors).length c_y25)) (ht 8 rfl) ?_)
       exact Goes.same hi rfl
      refine Dw_eq (Value.int .i64 i_1) (fun ρ60 w61 g hle hi ht => ?_) ?_
      ·
       obtain ⟨-, hst, -⟩ := hle
       refine StepOp_plain (op_move (v := (Value.int .i64 i_1)) (ht 9 rfl) ?_)
       exact Goes.same hi rfl
      replace hm := ck_some hm; obtain ⟨hc66, hm⟩ := hm
      refine Dw_op (VP O [(some b1, Obj.cells [(Value.slice a_a_volumes a.volumes.length c_a_volumes), (Value.slice a_a_sectors a.sectors.length c_a_sectors), (Value.slice a_a_configs a.configs.length c_a_configs), (Value.slice a_a_segments a.segments.length c_a_segments), (Value.slice a_a_routes a.routes.length c_a_routes), (Value.slice a_a_airports a.airports.length c_a_airports), (Value.slice a_a_classes a.classes.length c_a_classes), (Value.slice a_a_rules a.rules.length c_a_rules)].toArray 31)] (rInt .i64) (((a.configs.getD konfig.toNat default).sectors).getD i_1.toNat default)) (VP.stab _ _) (fun ρ63 w64 g hle hi ht => ?_) ?_
      ·
       obtain ⟨-, hst, -⟩ := hle
       replace f_y25 := f_y25.step hst
       refine StepOp_plain (op_indexAddr (q := (rInt .i64)) ty39 ty3 (ht 31 rfl) (ht 32 rfl) f_y25 rfl hc66.1 hc66.2 ?_)
       intro p67 f68
       exact Goes.same hi ⟨_, rfl, f68⟩
      refine Dw_op (VD O [(some b1, Obj.cells [(Value.slice a_a_volumes a.volumes.length c_a_volumes), (Value.slice a_a_sectors a.sectors.length c_a_sectors), (Value.slice a_a_configs a.configs.length c_a_configs), (Value.slice a_a_segments a.segments.length c_a_segments), (Value.slice a_a_routes a.routes.length c_a_routes), (Value.slice a_a_airports a.airports.length c_a_airports), (Value.slice a_a_classes a.classes.length c_a_classes), (Value.slice a_a_rules a.rules.length c_a_rules)].toArray 31)] (vI .i64) (((a.configs.getD konfig.toNat default).sectors).getD i_1.toNat default)) (VD.stab _ _) (fun ρ69 w70 g hle hi ht => ?_) ?_
      ·
       obtain ⟨-, hst, -⟩ := hle
       obtain ⟨p72, q73, f74⟩ := ht 33 rfl
       refine StepOp_plain (op_loadP ty3 q73 f74 rfl ?_)
       intro v75 h76
       obtain ⟨rfl, r_y77⟩ := un_int h76
       exact Goes.same hi (show Vr.vd (vI .i64) _ _ _ _ from ⟨rfl, r_y77⟩)
      refine Dw_eq (Value.bool (decide (0 ≤ (((a.configs.getD konfig.toNat default).sectors).getD i_1.toNat default)))) (fun ρ78 w79 g hle hi ht => ?_) ?_
      ·
       obtain ⟨-, hst, -⟩ := hle
       have h81 : Vr.vd (vI .i64) _ _ _ _ := ht 34 rfl
       obtain ⟨q82, r_y83⟩ := h81
       refine StepOp_plain (op_geq q82 rfl ?_)
       exact Goes.same hi rfl
      refine Dw_opB (decide (0 ≤ (((a.configs.getD konfig.toNat default).sectors).getD i_1.toNat default))) (fun ρ84 w85 g hle hi ht => ?_) (fun hg87 => ?_) (fun hg87 => ?_)
      ·
       obtain ⟨-, hst, -⟩ := hle
       refine StepOp_plain (op_move (v := (Value.bool (decide (0 ≤ (((a.configs.getD konfig.toNat default).sectors).getD i_1.toNat default))))) (ht 35 rfl) ?_)
       exact Goes.same hi rfl
      ·
       replace hm := bif_t hm hg87
       refine Dw_eq (Value.slice a_y25 ((a.configs.getD konfig.toNat default).sectors).length c_y25) (fun ρ88 w89 g hle hi ht => ?_) ?_
       ·
        obtain ⟨-, hst, -⟩ := hle
        refine StepOp_g rfl (ht 36 rfl) (op_move (v := (Value.slice a_y25 ((a.configs.getD konfig.toNat default).sectors).length c_y25)) (ht 8 rfl) ?_)
        exact Goes.same hi rfl
       refine Dw_eq (Value.int .i64 i_1) (fun ρ91 w92 g hle hi ht => ?_) ?_
       ·
        obtain ⟨-, hst, -⟩ := hle
        refine StepOp_g rfl (ht 36 rfl) (op_move (v := (Value.int .i64 i_1)) (ht 9 rfl) ?_)
        exact Goes.same hi rfl
       replace hm := ck_some hm; obtain ⟨hc97, hm⟩ := hm
       refine Dw_op (VP O [(some b1, Obj.cells [(Value.slice a_a_volumes a.volumes.length c_a_volumes), (Value.slice a_a_sectors a.sectors.length c_a_sectors), (Value.slice a_a_configs a.configs.length c_a_configs), (Value.slice a_a_segments a.segments.length c_a_segments), (Value.slice a_a_routes a.routes.length c_a_routes), (Value.slice a_a_airports a.airports.length c_a_airports), (Value.slice a_a_classes a.classes.length c_a_classes), (Value.slice a_a_rules a.rules.length c_a_rules)].toArray 31)] (rInt .i64) (((a.configs.getD konfig.toNat default).sectors).getD i_1.toNat default)) (VP.stab _ _) (fun ρ94 w95 g hle hi ht => ?_) ?_
       ·
        obtain ⟨-, hst, -⟩ := hle
        replace f_y25 := f_y25.step hst
        refine StepOp_g rfl (ht 36 rfl) (op_indexAddr (q := (rInt .i64)) ty39 ty3 (ht 37 rfl) (ht 38 rfl) f_y25 rfl hc97.1 hc97.2 ?_)
        intro p98 f99
        exact Goes.same hi ⟨_, rfl, f99⟩
       refine Dw_op (VD O [(some b1, Obj.cells [(Value.slice a_a_volumes a.volumes.length c_a_volumes), (Value.slice a_a_sectors a.sectors.length c_a_sectors), (Value.slice a_a_configs a.configs.length c_a_configs), (Value.slice a_a_segments a.segments.length c_a_segments), (Value.slice a_a_routes a.routes.length c_a_routes), (Value.slice a_a_airports a.airports.length c_a_airports), (Value.slice a_a_classes a.classes.length c_a_classes), (Value.slice a_a_rules a.rules.length c_a_rules)].toArray 31)] (vI .i64) (((a.configs.getD konfig.toNat default).sectors).getD i_1.toNat default)) (VD.stab _ _) (fun ρ100 w101 g hle hi ht => ?_) ?_
       ·
        obtain ⟨-, hst, -⟩ := hle
        obtain ⟨p103, q104, f105⟩ := ht 39 rfl
        refine StepOp_g rfl (ht 36 rfl) (op_loadP ty3 q104 f105 rfl ?_)
        intro v106 h107
        obtain ⟨rfl, r_y108⟩ := un_int h107
        exact Goes.same hi (show Vr.vd (vI .i64) _ _ _ _ from ⟨rfl, r_y108⟩)
       refine Dw_eq (Value.pointer (some ⟨b1, 1, none⟩)) (fun ρ109 w110 g hle hi ht => ?_) ?_
       ·
        obtain ⟨-, hst, -⟩ := hle
        refine StepOp_g rfl (ht 36 rfl) (op_fieldAddr ty31 rfl ty23 (by decide) (ht 3 rfl) (rfl : _ = (⟨_, 1, none⟩ : Addr)) ?_)
        exact Goes.same hi rfl
       refine Dw_eq (Value.slice a_a_sectors a.sectors.length c_a_sectors) (fun ρ112 w113 g hle hi ht => ?_) ?_
       ·
        obtain ⟨-, hst, -⟩ := hle
        have hsn := (Step.nx hi).1
        refine StepOp_g rfl (ht 36 rfl) (op_load (cs := [(Value.slice a_a_volumes a.volumes.length c_a_volumes), (Value.slice a_a_sectors a.sectors.length c_a_sectors), (Value.slice a_a_configs a.configs.length c_a_configs), (Value.slice a_a_segments a.segments.length c_a_segments), (Value.slice a_a_routes a.routes.length c_a_routes), (Value.slice a_a_airports a.airports.length c_a_airports), (Value.slice a_a_classes a.classes.length c_a_classes), (Value.slice a_a_rules a.rules.length c_a_rules)]) (i := 0) ty23 hsn (ht 41 rfl) rfl rfl ?_)
        exact Goes.same hi rfl
       refine Dw_eq (Value.int .i64 (a.sectors.length : Int)) (fun ρ115 w116 g hle hi ht => ?_) ?_
       ·
        obtain ⟨-, hst, -⟩ := hle
        refine StepOp_g rfl (ht 36 rfl) (op_len Try.underlying23 (ht 42 rfl) ?_)
        exact Goes.same hi rfl
       refine Dw_eq (Value.bool (decide ((((a.configs.getD konfig.toNat default).sectors).getD i_1.toNat default) < (a.sectors.length : Int)))) (fun ρ118 w119 g hle hi ht => ?_) ?_
       ·
        obtain ⟨-, hst, -⟩ := hle
        have h121 : Vr.vd (vI .i64) _ _ _ _ := ht 40 rfl
        obtain ⟨q122, r_y123⟩ := h121
        refine StepOp_g rfl (ht 36 rfl) (op_lss q122 (ht 43 rfl) ?_)
        exact Goes.same hi rfl
       refine Dw_eq (Value.bool (decide ((((a.configs.getD konfig.toNat default).sectors).getD i_1.toNat default) < (a.sectors.length : Int)))) (fun ρ124 w125 g hle hi ht => ?_) ?_
       ·
        obtain ⟨-, hst, -⟩ := hle
        refine StepOp_plain (op_pick_t (v := (Value.bool (decide ((((a.configs.getD konfig.toNat default).sectors).getD i_1.toNat default) < (a.sectors.length : Int))))) (ht 36 rfl) (ht 44 rfl) ?_)
        exact Goes.same hi rfl
       refine Dw_opB (decide ((((a.configs.getD konfig.toNat default).sectors).getD i_1.toNat default) < (a.sectors.length : Int))) (fun ρ127 w128 g hle hi ht => ?_) (fun hg130 => ?_) (fun hg130 => ?_)
       ·
        obtain ⟨-, hst, -⟩ := hle
        refine StepOp_plain (op_move (v := (Value.bool (decide ((((a.configs.getD konfig.toNat default).sectors).getD i_1.toNat default) < (a.sectors.length : Int))))) (ht 45 rfl) ?_)
        exact Goes.same hi rfl
       ·
        replace hm := bif_t hm hg130
        refine Dw_eq (Value.pointer (some ⟨b1, 1, none⟩)) (fun ρ131 w132 g hle hi ht => ?_) ?_
        ·
         obtain ⟨-, hst, -⟩ := hle
         refine StepOp_g rfl (ht 46 rfl) (op_fieldAddr ty31 rfl ty23 (by decide) (ht 3 rfl) (rfl : _ = (⟨_, 1, none⟩ : Addr)) ?_)
         exact Goes.same hi rfl
        refine Dw_eq (Value.slice a_a_sectors a.sectors.length c_a_sectors) (fun ρ134 w135 g hle hi ht => ?_) ?_
        ·
         obtain ⟨-, hst, -⟩ := hle
         have hsn := (Step.nx hi).1
         refine StepOp_g rfl (ht 46 rfl) (op_load (cs := [(Value.slice a_a_volumes a.volumes.length c_a_volumes), (Value.slice a_a_sectors a.sectors.length c_a_sectors), (Value.slice a_a_configs a.configs.length c_a_configs), (Value.slice a_a_segments a.segments.length c_a_segments), (Value.slice a_a_routes a.routes.length c_a_routes), (Value.slice a_a_airports a.airports.length c_a_airports), (Value.slice a_a_classes a.classes.length c_a_classes), (Value.slice a_a_rules a.rules.length c_a_rules)]) (i := 0) ty23 hsn (ht 47 rfl) rfl rfl ?_)
         exact Goes.same hi rfl
        refine Dw_eq (Value.slice a_y25 ((a.configs.getD konfig.toNat default).sectors).length c_y25) (fun ρ137 w138 g hle hi ht => ?_) ?_
        ·
         obtain ⟨-, hst, -⟩ := hle
         refine StepOp_g rfl (ht 46 rfl) (op_move (v := (Value.slice a_y25 ((a.configs.getD konfig.toNat default).sectors).length c_y25)) (ht 8 rfl) ?_)
         exact Goes.same hi rfl
        refine Dw_eq (Value.int .i64 i_1) (fun ρ140 w141 g hle hi ht => ?_) ?_
        ·
         obtain ⟨-, hst, -⟩ := hle
         refine StepOp_g rfl (ht 46 rfl) (op_move (v := (Value.int .i64 i_1)) (ht 9 rfl) ?_)
         exact Goes.same hi rfl
        replace hm := ck_some hm; obtain ⟨hc146, hm⟩ := hm
        refine Dw_op (VP O [(some b1, Obj.cells [(Value.slice a_a_volumes a.volumes.length c_a_volumes), (Value.slice a_a_sectors a.sectors.length c_a_sectors), (Value.slice a_a_configs a.configs.length c_a_configs), (Value.slice a_a_segments a.segments.length c_a_segments), (Value.slice a_a_routes a.routes.length c_a_routes), (Value.slice a_a_airports a.airports.length c_a_airports), (Value.slice a_a_classes a.classes.length c_a_classes), (Value.slice a_a_rules a.rules.length c_a_rules)].toArray 31)] (rInt .i64) (((a.configs.getD konfig.toNat default).sectors).getD i_1.toNat default)) (VP.stab _ _) (fun ρ143 w144 g hle hi ht => ?_) ?_
        ·
         obtain ⟨-, hst, -⟩ := hle
         replace f_y25 := f_y25.step hst
         refine StepOp_g rfl (ht 46 rfl) (op_indexAddr (q := (rInt .i64)) ty39 ty3 (ht 49 rfl) (ht 50 rfl) f_y25 rfl hc146.1 hc146.2 ?_)
         intro p147 f148
         exact Goes.same hi ⟨_, rfl, f148⟩
        refine Dw_op (VD O [(some b1, Obj.cells [(Value.slice a_a_volumes a.volumes.length c_a_volumes), (Value.slice a_a_sectors a.sectors.length c_a_sectors), (Value.slice a_a_configs a.configs.length c_a_configs), (Value.slice a_a_segments a.segments.length c_a_segments), (Value.slice a_a_routes a.routes.length c_a_routes), (Value.slice a_a_airports a.airports.length c_a_airports), (Value.slice a_a_classes a.classes.length c_a_classes), (Value.slice a_a_rules a.rules.length c_a_rules)].toArray 31)] (vI .i64) (((a.configs.getD konfig.toNat default).sectors).getD i_1.toNat default)) (VD.stab _ _) (fun ρ149 w150 g hle hi ht => ?_) ?_
        ·
         obtain ⟨-, hst, -⟩ := hle
         obtain ⟨p152, q153, f154⟩ := ht 51 rfl
         refine StepOp_g rfl (ht 46 rfl) (op_loadP ty3 q153 f154 rfl ?_)
         intro v155 h156
         obtain ⟨rfl, r_y157⟩ := un_int h156
         exact Goes.same hi (show Vr.vd (vI .i64) _ _ _ _ from ⟨rfl, r_y157⟩)
        replace hm := ck_some hm; obtain ⟨hc164, hm⟩ := hm
        refine Dw_op (VP O [(some b1, Obj.cells [(Value.slice a_a_volumes a.volumes.length c_a_volumes), (Value.slice a_a_sectors a.sectors.length c_a_sectors), (Value.slice a_a_configs a.configs.length c_a_configs), (Value.slice a_a_segments a.segments.length c_a_segments), (Value.slice a_a_routes a.routes.length c_a_routes), (Value.slice a_a_airports a.airports.length c_a_airports), (Value.slice a_a_classes a.classes.length c_a_classes), (Value.slice a_a_rules a.rules.length c_a_rules)].toArray 31)] rXSector (a.sectors.getD (((a.configs.getD konfig.toNat default).sectors).getD i_1.toNat default).toNat default)) (VP.stab _ _) (fun ρ158 w159 g hle hi ht => ?_) ?_
        ·
         obtain ⟨-, hst, -⟩ := hle
         replace f_a_sectors := f_a_sectors.step hst
         have h161 : Vr.vd (vI .i64) _ _ _ _ := ht 52 rfl
         obtain ⟨q162, r_y163⟩ := h161
         refine StepOp_g rfl (ht 46 rfl) (op_indexAddr (q := rXSector) ty23 ty50 (ht 48 rfl) q162 f_a_sectors rfl hc164.1 hc164.2 ?_)
         intro p165 f166
         exact Goes.same hi ⟨_, rfl, f166⟩
        refine Dw_op (VP O [(some b1, Obj.cells [(Value.slice a_a_volumes a.volumes.length c_a_volumes), (Value.slice a_a_sectors a.sectors.length c_a_sectors), (Value.slice a_a_configs a.configs.length c_a_configs), (Value.slice a_a_segments a.segments.length c_a_segments), (Value.slice a_a_routes a.routes.length c_a_routes), (Value.slice a_a_airports a.airports.length c_a_airports), (Value.slice a_a_classes a.classes.length c_a_classes), (Value.slice a_a_rules a.rules.length c_a_rules)].toArray 31)] (rSl (rInt .i64)) ((a.sectors.getD (((a.configs.getD konfig.toNat default).sectors).getD i_1.toNat default).toNat default).volumes)) (VP.stab _ _) (fun ρ167 w168 g hle hi ht => ?_) ?_
        ·
         obtain ⟨-, hst, -⟩ := hle
         obtain ⟨p170, q171, f172⟩ := ht 53 rfl
         refine StepOp_g rfl (ht 46 rfl) (op_fieldAddr ty50 rfl ty39 (by decide) q171 rfl ?_)
         have f173 := f172.via.snd.snd.fst
         exact Goes.same hi ⟨_, rfl, f173⟩
        refine Dw_op (VD O [(some b1, Obj.cells [(Value.slice a_a_volumes a.volumes.length c_a_volumes), (Value.slice a_a_sectors a.sectors.length c_a_sectors), (Value.slice a_a_configs a.configs.length c_a_configs), (Value.slice a_a_segments a.segments.length c_a_segments), (Value.slice a_a_routes a.routes.length c_a_routes), (Value.slice a_a_airports a.airports.length c_a_airports), (Value.slice a_a_classes a.classes.length c_a_classes), (Value.slice a_a_rules a.rules.length c_a_rules)].toArray 31)] (vC (rSl (rInt .i64))) ((a.sectors.getD (((a.configs.getD konfig.toNat default).sectors).getD i_1.toNat default).toNat default).volumes)) (VD.stab _ _) (fun ρ174 w175 g hle hi ht => ?_) ?_
        ·
         obtain ⟨-, hst, -⟩ := hle
         obtain ⟨p177, q178, f179⟩ := ht 54 rfl
         refine StepOp_g rfl (ht 46 rfl) (op_loadP ty39 q178 f179 rfl ?_)
         intro v180 h181
         obtain ⟨a_y182, c_y182, rfl, f_y182⟩ := un_sl h181
         exact Goes.same hi (show Vr.vd (vC (rSl (rInt .i64))) _ _ _ _ from (mkC (mk_sl f_y182)))
        refine Dw_eq (Value.int .i64 volume) (fun ρ183 w184 g hle hi ht => ?_) ?_
        ·
         obtain ⟨-, hst, -⟩ := hle
         refine StepOp_g rfl (ht 46 rfl) (op_move (v := (Value.int .i64 volume)) (ht 2 rfl) ?_)
         exact Goes.same hi rfl
        refine Dw_nil fun w190 g191 hl192 hi193 => ?_
        obtain ⟨-, hst194, -⟩ := hl192
        obtain ⟨hs196, p195⟩ := Step.nx hi193
        rintro _ rfl
        rintro v197 h198
        replace h198 : Vr.vd (vC (rSl (rInt .i64))) _ _ _ _ := h198
        obtain ⟨a_y199, c_y199, rfl, f_y199⟩ := un_sl h198
        rintro _ ⟨p200, rfl, f201⟩
        rintro _ ⟨p202, rfl, f203⟩
        rintro v204 h205
        replace h205 : Vr.vd (vI .i64) _ _ _ _ := h205
        obtain ⟨rfl, r_y206⟩ := h205
        rintro _ ⟨p207, rfl, f208⟩
        rintro _ rfl
        rintro _ rfl
        rintro _ rfl
        rintro _ rfl
        rintro _ rfl
        rintro _ rfl
        rintro _ rfl
        rintro _ rfl
        rintro _ rfl
        rintro _ rfl
        rintro v209 h210
        replace h210 : Vr.vd (vI .i64) _ _ _ _ := h210
        obtain ⟨rfl, r_y211⟩ := h210
        rintro _ ⟨p212, rfl, f213⟩
        rintro _ rfl
        rintro _ rfl
        rintro _ rfl
        rintro _ rfl
        rintro v214 h215
        replace h215 : Vr.vd (vI .i64) _ _ _ _ := h215
        obtain ⟨rfl, r_y216⟩ := h215
        rintro _ ⟨p217, rfl, f218⟩
        rintro _ rfl
        rintro _ rfl
        have p219 : Step (ks [(some b1, Obj.cells [(Value.slice a_a_volumes a.volumes.length c_a_volumes), (Value.slice a_a_sectors a.sectors.length c_a_sectors), (Value.slice a_a_configs a.configs.length c_a_configs), (Value.slice a_a_segments a.segments.length c_a_segments), (Value.slice a_a_routes a.routes.length c_a_routes), (Value.slice a_a_airports a.airports.length c_a_airports), (Value.slice a_a_classes a.classes.length c_a_classes), (Value.slice a_a_rules a.rules.length c_a_rules)].toArray 31)] O) w32 (ks [(some b1, Obj.cells [(Value.slice a_a_volumes a.volumes.length c_a_volumes), (Value.slice a_a_sectors a.sectors.length c_a_sectors), (Value.slice a_a_configs a.configs.length c_a_configs), (Value.slice a_a_segments a.segments.length c_a_segments), (Value.slice a_a_routes a.routes.length c_a_routes), (Value.slice a_a_airports a.airports.length c_a_airports), (Value.slice a_a_classes a.classes.length c_a_classes), (Value.slice a_a_rules a.rules.length c_a_rules)].toArray 31)] O) w190 := hst194.trans p195
        replace f_y199 := f_y199.step p195; replace f201 := f201.step p195; replace f203 := f203.step p195; replace f208 := f208.step p195; replace f213 := f213.step p195; replace f218 := f218.step p195; replace f_a_volumes := f_a_volumes.step p219; replace f_a_sectors := f_a_sectors.step p219; replace f_a_configs := f_a_configs.step p219; replace f_a_segments := f_a_segments.step p219; replace f_a_routes := f_a_routes.step p219; replace f_a_airports := f_a_airports.step p219; replace f_a_classes := f_a_classes.step p219; replace f_a_rules := f_a_rules.step p219; replace f_y25 := f_y25.step p219; replace ch37 := ch37.trans p219; replace ch56 := ch56.trans p219; clear p219 hs33
        replace hm := bd hm; obtain ⟨has_1, hv220, hm⟩ := hm
        refine Rg_opg rfl rfl rfl (op_call Try.call30 (c30_overflightref10_has (l := (a.sectors.getD (((a.configs.getD konfig.toNat default).sectors).getD i_1.toNat default).toNat default).volumes) (n := volume) hs196.ltw f_y199 r_volume hv220) rfl ?_)
        rintro v221 w222 ⟨hx223, h224⟩
        have hs225 := hs196.call hx223
        have p226 := Step.ext (O := ks [(some b1, Obj.cells [(Value.slice a_a_volumes a.volumes.length c_a_volumes), (Value.slice a_a_sectors a.sectors.length c_a_sectors), (Value.slice a_a_configs a.configs.length c_a_configs), (Value.slice a_a_segments a.segments.length c_a_segments), (Value.slice a_a_routes a.routes.length c_a_routes), (Value.slice a_a_airports a.airports.length c_a_airports), (Value.slice a_a_classes a.classes.length c_a_classes), (Value.slice a_a_rules a.rules.length c_a_rules)].toArray 31)] O) hx223
        clear hx223
        replace f_a_volumes := f_a_volumes.step p226; replace f_a_sectors := f_a_sectors.step p226; replace f_a_configs := f_a_configs.step p226; replace f_a_segments := f_a_segments.step p226; replace f_a_routes := f_a_routes.step p226; replace f_a_airports := f_a_airports.step p226; replace f_a_classes := f_a_classes.step p226; replace f_a_rules := f_a_rules.step p226; replace f_y25 := f_y25.step p226; replace f_y199 := f_y199.step p226; replace f201 := f201.step p226; replace f203 := f203.step p226; replace f208 := f208.step p226; replace f213 := f213.step p226; replace f218 := f218.step p226; replace ch37 := ch37.trans p226; replace ch56 := ch56.trans p226; clear p226 hs196
        obtain rfl := h224
        refine Rg_op rfl (op_pick_t (v := (Value.bool has_1)) rfl rfl ?_)
        refine Rg_nil ?_
        exact hK43 _ _ ⟨has_1, _, rfl, ⟨(by repeat (first | with_reducible exact Out.refl _ _ | refine Out.upd ?_ rfl | refine Out.updL ?_ rfl | refine Out.mix' ?_ rfl | exact Out.refl _ _)), rfl, rfl, trivial⟩, ch56, hs225, hm⟩
       ·
        replace hm := bif_f hm hg130
        refine Dw_skip (fun _ _ _ ht => wanted_x rfl (ht 46 rfl) rfl) ?_
        refine Dw_skip (fun _ _ _ ht => wanted_x rfl (ht 46 rfl) rfl) ?_
        refine Dw_skip (fun _ _ _ ht => wanted_x rfl (ht 46 rfl) rfl) ?_
        refine Dw_skip (fun _ _ _ ht => wanted_x rfl (ht 46 rfl) rfl) ?_
        refine Dw_skip (fun _ _ _ ht => wanted_x rfl (ht 46 rfl) rfl) ?_
        refine Dw_skip (fun _ _ _ ht => wanted_x rfl (ht 46 rfl) rfl) ?_
        refine Dw_skip (fun _ _ _ ht => wanted_x rfl (ht 46 rfl) rfl) ?_
        refine Dw_skip (fun _ _ _ ht => wanted_x rfl (ht 46 rfl) rfl) ?_
        refine Dw_skip (fun _ _ _ ht => wanted_x rfl (ht 46 rfl) rfl) ?_
        refine Dw_skip (fun _ _ _ ht => wanted_x rfl (ht 46 rfl) rfl) ?_
        refine Dw_nil fun w232 g233 hl234 hi235 => ?_
        obtain ⟨-, hst236, -⟩ := hl234
        obtain ⟨hs238, p237⟩ := Step.nx hi235
        rintro _ rfl
        rintro _ rfl
        rintro _ rfl
        rintro _ rfl
        rintro _ rfl
        rintro _ rfl
        rintro _ rfl
        rintro _ rfl
        rintro _ rfl
        rintro _ rfl
        rintro _ rfl
        rintro _ rfl
        rintro _ rfl
        rintro _ rfl
        rintro _ rfl
        rintro _ rfl
        rintro v239 h240
        replace h240 : Vr.vd (vI .i64) _ _ _ _ := h240
        obtain ⟨rfl, r_y241⟩ := h240
        rintro _ ⟨p242, rfl, f243⟩
        rintro _ rfl
        rintro _ rfl
        rintro _ rfl
        rintro _ rfl
        rintro v244 h245
        replace h245 : Vr.vd (vI .i64) _ _ _ _ := h245
        obtain ⟨rfl, r_y246⟩ := h245
        rintro _ ⟨p247, rfl, f248⟩
        rintro _ rfl
        rintro _ rfl
        have p249 : Step (ks [(some b1, Obj.cells [(Value.slice a_a_volumes a.volumes.length c_a_volumes), (Value.slice a_a_sectors a.sectors.length c_a_sectors), (Value.slice a_a_configs a.configs.length c_a_configs), (Value.slice a_a_segments a.segments.length c_a_segments), (Value.slice a_a_routes a.routes.length c_a_routes), (Value.slice a_a_airports a.airports.length c_a_airports), (Value.slice a_a_classes a.classes.length c_a_classes), (Value.slice a_a_rules a.rules.length c_a_rules)].toArray 31)] O) w32 (ks [(some b1, Obj.cells [(Value.slice a_a_volumes a.volumes.length c_a_volumes), (Value.slice a_a_sectors a.sectors.length c_a_sectors), (Value.slice a_a_configs a.configs.length c_a_configs), (Value.slice a_a_segments a.segments.length c_a_segments), (Value.slice a_a_routes a.routes.length c_a_routes), (Value.slice a_a_airports a.airports.length c_a_airports), (Value.slice a_a_classes a.classes.length c_a_classes), (Value.slice a_a_rules a.rules.length c_a_rules)].toArray 31)] O) w232 := hst236.trans p237
        replace f243 := f243.step p237; replace f248 := f248.step p237; replace f_a_volumes := f_a_volumes.step p249; replace f_a_sectors := f_a_sectors.step p249; replace f_a_configs := f_a_configs.step p249; replace f_a_segments := f_a_segments.step p249; replace f_a_routes := f_a_routes.step p249; replace f_a_airports := f_a_airports.step p249; replace f_a_classes := f_a_classes.step p249; replace f_a_rules := f_a_rules.step p249; replace f_y25 := f_y25.step p249; replace ch37 := ch37.trans p249; replace ch56 := ch56.trans p249; clear p249 hs33
        refine Rg_opx rfl (asB_ne rfl rfl) rfl ?_
        refine Rg_op rfl (op_pick_f (v := (Value.bool false)) rfl rfl ?_)
        refine Rg_nil ?_
        exact hK43 _ _ ⟨false, _, rfl, ⟨(by repeat (first | with_reducible exact Out.refl _ _ | refine Out.upd ?_ rfl | refine Out.updL ?_ rfl | refine Out.mix' ?_ rfl | exact Out.refl _ _)), rfl, rfl, trivial⟩, ch56, hs238, hm⟩
      ·
       replace hm := bif_f hm hg87
       refine Dw_skip (fun _ _ _ ht => wanted_x rfl (ht 36 rfl) rfl) ?_
       refine Dw_skip (fun _ _ _ ht => wanted_x rfl (ht 36 rfl) rfl) ?_
       refine Dw_skip (fun _ _ _ ht => wanted_x rfl (ht 36 rfl) rfl) ?_
       refine Dw_skip (fun _ _ _ ht => wanted_x rfl (ht 36 rfl) rfl) ?_
       refine Dw_skip (fun _ _ _ ht => wanted_x rfl (ht 36 rfl) rfl) ?_
       refine Dw_skip (fun _ _ _ ht => wanted_x rfl (ht 36 rfl) rfl) ?_
       refine Dw_skip (fun _ _ _ ht => wanted_x rfl (ht 36 rfl) rfl) ?_
       refine Dw_skip (fun _ _ _ ht => wanted_x rfl (ht 36 rfl) rfl) ?_
       refine Dw_eq (Value.bool false) (fun ρ250 w251 g hle hi ht => ?_) ?_
       ·
        obtain ⟨-, hst, -⟩ := hle
        refine StepOp_plain (op_pick_f (v := (Value.bool false)) (ht 36 rfl) rfl ?_)
        exact Goes.same hi rfl
       refine Dw_eq (Value.bool false) (fun ρ253 w254 g hle hi ht => ?_) ?_
       ·
        obtain ⟨-, hst, -⟩ := hle
        refine StepOp_plain (op_move (v := (Value.bool false)) (ht 45 rfl) ?_)
        exact Goes.same hi rfl
       refine Dw_skip (fun _ _ _ ht => wanted_x rfl (ht 46 rfl) rfl) ?_
       refine Dw_skip (fun _ _ _ ht => wanted_x rfl (ht 46 rfl) rfl) ?_
       refine Dw_skip (fun _ _ _ ht => wanted_x rfl (ht 46 rfl) rfl) ?_
       refine Dw_skip (fun _ _ _ ht => wanted_x rfl (ht 46 rfl) rfl) ?_
       refine Dw_skip (fun _ _ _ ht => wanted_x rfl (ht 46 rfl) rfl) ?_
       refine Dw_skip (fun _ _ _ ht => wanted_x rfl (ht 46 rfl) rfl) ?_
       refine Dw_skip (fun _ _ _ ht => wanted_x rfl (ht 46 rfl) rfl) ?_
       refine Dw_skip (fun _ _ _ ht => wanted_x rfl (ht 46 rfl) rfl) ?_
       refine Dw_skip (fun _ _ _ ht => wanted_x rfl (ht 46 rfl) rfl) ?_
       refine Dw_skip (fun _ _ _ ht => wanted_x rfl (ht 46 rfl) rfl) ?_
       refine Dw_nil fun w260 g261 hl262 hi263 => ?_
       obtain ⟨-, hst264, -⟩ := hl262
       obtain ⟨hs266, p265⟩ := Step.nx hi263
       rintro _ rfl
       rintro _ rfl
       rintro _ rfl
       rintro _ rfl
       rintro _ rfl
       rintro _ rfl
       rintro _ rfl
       rintro _ rfl
       rintro _ rfl
       rintro _ rfl
       rintro _ rfl
       rintro _ rfl
       rintro _ rfl
       rintro _ rfl
       rintro _ rfl
       rintro _ rfl
       rintro _ rfl
       rintro _ rfl
       rintro _ rfl
       rintro _ rfl
       rintro _ rfl
       rintro _ rfl
       rintro v267 h268
       replace h268 : Vr.vd (vI .i64) _ _ _ _ := h268
       obtain ⟨rfl, r_y269⟩ := h268
       rintro _ ⟨p270, rfl, f271⟩
       rintro _ rfl
       rintro _ rfl
       have p272 : Step (ks [(some b1, Obj.cells [(Value.slice a_a_volumes a.volumes.length c_a_volumes), (Value.slice a_a_sectors a.sectors.length c_a_sectors), (Value.slice a_a_configs a.configs.length c_a_configs), (Value.slice a_a_segments a.segments.length c_a_segments), (Value.slice a_a_routes a.routes.length c_a_routes), (Value.slice a_a_airports a.airports.length c_a_airports), (Value.slice a_a_classes a.classes.length c_a_classes), (Value.slice a_a_rules a.rules.length c_a_rules)].toArray 31)] O) w32 (ks [(some b1, Obj.cells [(Value.slice a_a_volumes a.volumes.length c_a_volumes), (Value.slice a_a_sectors a.sectors.length c_a_sectors), (Value.slice a_a_configs a.configs.length c_a_configs), (Value.slice a_a_segments a.segments.length c_a_segments), (Value.slice a_a_routes a.routes.length c_a_routes), (Value.slice a_a_airports a.airports.length c_a_airports), (Value.slice a_a_classes a.classes.length c_a_classes), (Value.slice a_a_rules a.rules.length c_a_rules)].toArray 31)] O) w260 := hst264.trans p265
       replace f271 := f271.step p265; replace f_a_volumes := f_a_volumes.step p272; replace f_a_sectors := f_a_sectors.step p272; replace f_a_configs := f_a_configs.step p272; replace f_a_segments := f_a_segments.step p272; replace f_a_routes := f_a_routes.step p272; replace f_a_airports := f_a_airports.step p272; replace f_a_classes := f_a_classes.step p272; replace f_a_rules := f_a_rules.step p272; replace f_y25 := f_y25.step p272; replace ch37 := ch37.trans p272; replace ch56 := ch56.trans p272; clear p272 hs33
       refine Rg_opx rfl (asB_ne rfl rfl) rfl ?_
       refine Rg_op rfl (op_pick_f (v := (Value.bool false)) rfl rfl ?_)
       refine Rg_nil ?_
       exact hK43 _ _ ⟨false, _, rfl, ⟨(by repeat (first | with_reducible exact Out.refl _ _ | refine Out.upd ?_ rfl | refine Out.updL ?_ rfl | refine Out.mix' ?_ rfl | exact Out.refl _ _)), rfl, rfl, trivial⟩, ch56, hs266, hm⟩
    ·
     replace hm := bif_f hm hc38
     refine Wp_exit ?_
     refine Wp_seq ?_
     obtain ⟨hs273, p274⟩ := hs33.sub (bs' := []) (.cons _ List.Sublist.slnil)
     clear f_a_volumes f_a_sectors f_a_configs f_a_segments f_a_routes f_a_airports f_a_classes f_a_rules f_y25
     replace ch37 := ch37.trans p274; clear p274 hs33
     refine Wp_region ?_
     refine Rg_op rfl (op_assign (v := (Value.int .i64 0)) rfl ?_)
     refine Rg_op rfl (op_assign (v := (Value.bool false)) rfl ?_)
     refine Rg_nil ?_
     refine Wp_ret ?_
     have hz := step_all hs273
     refine ⟨_, (show Closes [] _ _ from rfl), [(Value.int .i64 0), (Value.bool false)], ⟨rfl, rfl, trivial⟩, hs273.ext, ?_⟩
     exact Vr.eq (a := (vT2 (vI .i64) vB)) (x := (0, false)) (mkT2 ⟨rfl, (show InK .i64 0 from by decide)⟩ rfl) (Option.some.inj hm)
 ·
  intro K10 hK10
  have ch275 := Step.refl (ks [(some b1, Obj.cells [(Value.slice a_a_volumes a.volumes.length c_a_volumes), (Value.slice a_a_sectors a.sectors.length c_a_sectors), (Value.slice a_a_configs a.configs.length c_a_configs), (Value.slice a_a_segments a.segments.length c_a_segments), (Value.slice a_a_routes a.routes.length c_a_routes), (Value.slice a_a_airports a.airports.length c_a_airports), (Value.slice a_a_classes a.classes.length c_a_classes), (Value.slice a_a_rules a.rules.length c_a_rules)].toArray 31)] O) w2
  refine Wp_region ?_
  refine Rg_op rfl (op_move (v := (Value.int .i64 konfig)) rfl ?_)
  refine Rg_op rfl (op_lss rfl rfl ?_)
  refine Rg_op rfl (op_move (v := (Value.bool (decide (konfig < 0)))) rfl ?_)
  refine Rg_case (fun hg276 => ?_) (fun hg276 => ?_)
  ·
   replace hm := bif_t hm hg276
   iterate 5 refine Rg_opx rfl (asB_ne rfl rfl) rfl ?_
   refine Rg_op rfl (op_pick_t (v := (Value.bool true)) rfl rfl ?_)
   refine Rg_nil ?_
   exact hK10 _ _ ⟨true, _, rfl, ⟨(by repeat (first | with_reducible exact Out.refl _ _ | refine Out.upd ?_ rfl | refine Out.updL ?_ rfl | refine Out.mix' ?_ rfl | exact Out.refl _ _)), rfl, rfl, trivial⟩, ch275, hs4, hm⟩
  ·
   replace hm := bif_f hm hg276
   refine Rg_opg rfl rfl rfl (op_move (v := (Value.int .i64 konfig)) rfl ?_)
   refine Rg_opg rfl rfl rfl (op_fieldAddr ty31 rfl ty24 (by decide) rfl (rfl : _ = (⟨_, 2, none⟩ : Addr)) ?_)
   refine Rg_opg rfl rfl rfl (op_load (cs := [(Value.slice a_a_volumes a.volumes.length c_a_volumes), (Value.slice a_a_sectors a.sectors.length c_a_sectors), (Value.slice a_a_configs a.configs.length c_a_configs), (Value.slice a_a_segments a.segments.length c_a_segments), (Value.slice a_a_routes a.routes.length c_a_routes), (Value.slice a_a_airports a.airports.length c_a_airports), (Value.slice a_a_classes a.classes.length c_a_classes), (Value.slice a_a_rules a.rules.length c_a_rules)]) (i := 0) ty24 hs4 rfl rfl rfl ?_)
   refine Rg_opg rfl rfl rfl (op_len Try.underlying24 rfl ?_)
   refine Rg_opg rfl rfl rfl (op_geq rfl rfl ?_)
   refine Rg_op rfl (op_pick_f (v := (Value.bool (decide ((a.configs.length : Int) ≤ konfig)))) rfl rfl ?_)
   refine Rg_nil ?_
   exact hK10 _ _ ⟨(decide ((a.configs.length : Int) ≤ konfig)), _, rfl, ⟨(by repeat (first | with_reducible exact Out.refl _ _ | refine Out.upd ?_ rfl | refine Out.updL ?_ rfl | refine Out.mix' ?_ rfl | exact Out.refl _ _)), rfl, rfl, trivial⟩, ch275, hs4, hm⟩

end Go.Fx



set_option linter.unusedVariables false
set_option linter.unusedSimpArgs false
set_option maxRecDepth 100000
set_option maxHeartbeats 0
namespace Go.Fx
open Go Go.RowKit Go.Proofs
def m44_overflightref10_together (a : XAirspace) (konfig : Int) (v : Int) (w_ : Int) : Option Bool :=
 (m14_overflightref10_Sector a konfig v).bind fun sector_1 =>
 (m14_overflightref10_Sector a konfig w_).bind fun sector_2 =>
 some (decide (sector_1.1 = sector_2.1))

theorem c44_overflightref10_together {w : World} {O : List Nat} {a : XAirspace} {konfig : Int} {v : Int} {w_ : Int} {a_a_volumes : Option Addr} {c_a_volumes : Nat} {a_a_sectors : Option Addr} {c_a_sectors : Nat} {a_a_configs : Option Addr} {c_a_configs : Nat} {a_a_segments : Option Addr} {c_a_segments : Nat} {a_a_routes : Option Addr} {c_a_routes : Nat} {a_a_airports : Option Addr} {c_a_airports : Nat} {a_a_classes : Option Addr} {c_a_classes : Nat} {a_a_rules : Option Addr} {c_a_rules : Nat} (hO : ∀ k ∈ O, k < w.heap.size) (f_a_volumes : SlR rXVolume w O a_a_volumes c_a_volumes a.volumes) (f_a_sectors : SlR rXSector w O a_a_sectors c_a_sectors a.sectors) (f_a_configs : SlR rXConfig w O a_a_configs c_a_configs a.configs) (f_a_segments : SlR rXSegment w O a_a_segments c_a_segments a.segments) (f_a_routes : SlR rXRoute w O a_a_routes c_a_routes a.routes) (f_a_airports : SlR rXAirport w O a_a_airports c_a_airports a.airports) (f_a_classes : SlR rXClass w O a_a_classes c_a_classes a.classes) (f_a_rules : SlR rXRule w O a_a_rules c_a_rules a.rules) (r_config : InK .i64 konfig) (r_v : InK .i64 v) (r_w_ : InK .i64 w_) {x : Bool} (hm : m44_overflightref10_together a konfig v w_ = some x) :
  Ok Try.prog 44 [(Value.agg [(Value.slice a_a_volumes a.volumes.length c_a_volumes), (Value.slice a_a_sectors a.sectors.length c_a_sectors), (Value.slice a_a_configs a.configs.length c_a_configs), (Value.slice a_a_segments a.segments.length c_a_segments), (Value.slice a_a_routes a.routes.length c_a_routes), (Value.slice a_a_airports a.airports.length c_a_airports), (Value.slice a_a_classes a.classes.length c_a_classes), (Value.slice a_a_rules a.rules.length c_a_rules)].toArray), (Value.int .i64 konfig), (Value.int .i64 v), (Value.int .i64 w_)] w O vB x := by
 unfold m44_overflightref10_together at hm
 refine Fn_of_Wp (n := 30) (xs := [.tmp 8]) Try.func44 rfl Try.ntmps44 Try.results44 rfl ?_
 have hs := St.start hO
 refine Wp_seq ?_
 refine Wp_region ?_
 refine Rg_op rfl (op_box (cs := [(Value.slice a_a_volumes a.volumes.length c_a_volumes), (Value.slice a_a_sectors a.sectors.length c_a_sectors), (Value.slice a_a_configs a.configs.length c_a_configs), (Value.slice a_a_segments a.segments.length c_a_segments), (Value.slice a_a_routes a.routes.length c_a_routes), (Value.slice a_a_airports a.airports.length c_a_airports), (Value.slice a_a_classes a.classes.length c_a_classes), (Value.slice a_a_rules a.rules.length c_a_rules)]) hs rfl rfl ?_)
 intro b1 w2 _ p3 hs4
 replace f_a_volumes := f_a_volumes.step p3; replace f_a_sectors := f_a_sectors.step p3; replace f_a_configs := f_a_configs.step p3; replace f_a_segments := f_a_segments.step p3; replace f_a_routes := f_a_routes.step p3; replace f_a_airports := f_a_airports.step p3; replace f_a_classes := f_a_classes.step p3; replace f_a_rules := f_a_rules.step p3; clear p3
 refine Rg_op rfl (op_assign (v := (Value.bool false)) rfl ?_)
 refine Rg_nil ?_
 refine Wp_seq ?_
 refine Wp_region ?_
 refine Rg_op rfl (op_loadA (cs := [(Value.slice a_a_volumes a.volumes.length c_a_volumes), (Value.slice a_a_sectors a.sectors.length c_a_sectors), (Value.slice a_a_configs a.configs.length c_a_configs), (Value.slice a_a_segments a.segments.length c_a_segments), (Value.slice a_a_routes a.routes.length c_a_routes), (Value.slice a_a_airports a.airports.length c_a_airports), (Value.slice a_a_classes a.classes.length c_a_classes), (Value.slice a_a_rules a.rules.length c_a_rules)]) (vs := [(Value.slice a_a_volumes a.volumes.length c_a_volumes), (Value.slice a_a_sectors a.sectors.length c_a_sectors), (Value.slice a_a_configs a.configs.length c_a_configs), (Value.slice a_a_segments a.segments.length c_a_segments), (Value.slice a_a_routes a.routes.length c_a_routes), (Value.slice a_a_airports a.airports.length c_a_airports), (Value.slice a_a_classes a.classes.length c_a_classes), (Value.slice a_a_rules a.rules.length c_a_rules)]) (i := 0) ty31 hs4 rfl rfl rfl rfl ?_)
 refine Rg_op rfl (op_move (v := (Value.int .i64 konfig)) rfl ?_)
 refine Rg_op rfl (op_move (v := (Value.int .i64 v)) rfl ?_)
 replace hm := bd hm; obtain ⟨sector_1, hv6, hm⟩ := hm
 refine Rg_op rfl (op_call Try.call14 (c14_overflightref10_Sector (a := a) (konfig := konfig) (volume := v) hs4.ltw f_a_volumes f_a_sectors f_a_configs f_a_segments f_a_routes f_a_airports f_a_classes f_a_rules r_config r_v hv6) rfl ?_)
 rintro v7 w8 ⟨hx9, h10⟩
 have hs11 := hs4.call hx9
 have p12 := Step.ext (O := ks [(some b1, Obj.cells [(Value.slice a_a_volumes a.volumes.length c_a_volumes), (Value.slice a_a_sectors a.sectors.length c_a_sectors), (Value.slice a_a_configs a.configs.length c_a_configs), (Value.slice a_a_segments a.segments.length c_a_segments), (Value.slice a_a_routes a.routes.length c_a_routes), (Value.slice a_a_airports a.airports.length c_a_airports), (Value.slice a_a_classes a.classes.length c_a_classes), (Value.slice a_a_rules a.rules.length c_a_rules)].toArray 31)] O) hx9
 clear hx9
 replace f_a_volumes := f_a_volumes.step p12; replace f_a_sectors := f_a_sectors.step p12; replace f_a_configs := f_a_configs.step p12; replace f_a_segments := f_a_segments.step p12; replace f_a_routes := f_a_routes.step p12; replace f_a_airports := f_a_airports.step p12; replace f_a_classes := f_a_classes.step p12; replace f_a_rules := f_a_rules.step p12; clear p12 hs4
 obtain ⟨v13, v14, rfl, h15, h16⟩ := h10
 obtain ⟨rfl, r_y17⟩ := h15
 obtain rfl := h16
 refine Rg_op rfl (op_move (v := (Value.tuple [(Value.int .i64 sector_1.1), (Value.bool sector_1.2)].toArray)) rfl ?_)
 refine Rg_op rfl (op_extract (v := (Value.int .i64 sector_1.1)) rfl rfl ?_)
 refine Rg_op rfl (op_extract (v := (Value.bool sector_1.2)) rfl rfl ?_)
 refine Rg_op rfl (op_assign (v := (Value.int .i64 sector_1.1)) rfl ?_)
 refine Rg_op rfl (op_assign (v := (Value.bool sector_1.2)) rfl ?_)
 refine Rg_nil ?_
 refine Wp_seq ?_
 refine Wp_region ?_
 refine Rg_op rfl (op_loadA (cs := [(Value.slice a_a_volumes a.volumes.length c_a_volumes), (Value.slice a_a_sectors a.sectors.length c_a_sectors), (Value.slice a_a_configs a.configs.length c_a_configs), (Value.slice a_a_segments a.segments.length c_a_segments), (Value.slice a_a_routes a.routes.length c_a_routes), (Value.slice a_a_airports a.airports.length c_a_airports), (Value.slice a_a_classes a.classes.length c_a_classes), (Value.slice a_a_rules a.rules.length c_a_rules)]) (vs := [(Value.slice a_a_volumes a.volumes.length c_a_volumes), (Value.slice a_a_sectors a.sectors.length c_a_sectors), (Value.slice a_a_configs a.configs.length c_a_configs), (Value.slice a_a_segments a.segments.length c_a_segments), (Value.slice a_a_routes a.routes.length c_a_routes), (Value.slice a_a_airports a.airports.length c_a_airports), (Value.slice a_a_classes a.classes.length c_a_classes), (Value.slice a_a_rules a.rules.length c_a_rules)]) (i := 0) ty31 hs11 rfl rfl rfl rfl ?_)
 refine Rg_op rfl (op_move (v := (Value.int .i64 konfig)) rfl ?_)
 refine Rg_op rfl (op_move (v := (Value.int .i64 w_)) rfl ?_)
 replace hm := bd hm; obtain ⟨sector_2, hv19, hm⟩ := hm
 refine Rg_op rfl (op_call Try.call14 (c14_overflightref10_Sector (a := a) (konfig := konfig) (volume := w_) hs11.ltw f_a_volumes f_a_sectors f_a_configs f_a_segments f_a_routes f_a_airports f_a_classes f_a_rules r_config r_w_ hv19) rfl ?_)
 rintro v20 w21 ⟨hx22, h23⟩
 have hs24 := hs11.call hx22
 have p25 := Step.ext (O := ks [(some b1, Obj.cells [(Value.slice a_a_volumes a.volumes.length c_a_volumes), (Value.slice a_a_sectors a.sectors.length c_a_sectors), (Value.slice a_a_configs a.configs.length c_a_configs), (Value.slice a_a_segments a.segments.length c_a_segments), (Value.slice a_a_routes a.routes.length c_a_routes), (Value.slice a_a_airports a.airports.length c_a_airports), (Value.slice a_a_classes a.classes.length c_a_classes), (Value.slice a_a_rules a.rules.length c_a_rules)].toArray 31)] O) hx22
 clear hx22
 replace f_a_volumes := f_a_volumes.step p25; replace f_a_sectors := f_a_sectors.step p25; replace f_a_configs := f_a_configs.step p25; replace f_a_segments := f_a_segments.step p25; replace f_a_routes := f_a_routes.step p25; replace f_a_airports := f_a_airports.step p25; replace f_a_classes := f_a_classes.step p25; replace f_a_rules := f_a_rules.step p25; clear p25 hs11
 obtain ⟨v26, v27, rfl, h28, h29⟩ := h23
 obtain ⟨rfl, r_y30⟩ := h28
 obtain rfl := h29
 refine Rg_op rfl (op_move (v := (Value.tuple [(Value.int .i64 sector_2.1), (Value.bool sector_2.2)].toArray)) rfl ?_)
 refine Rg_op rfl (op_extract (v := (Value.int .i64 sector_2.1)) rfl rfl ?_)
 refine Rg_op rfl (op_extract (v := (Value.bool sector_2.2)) rfl rfl ?_)
 refine Rg_op rfl (op_assign (v := (Value.int .i64 sector_2.1)) rfl ?_)
 refine Rg_op rfl (op_assign (v := (Value.bool sector_2.2)) rfl ?_)
 refine Rg_nil ?_
 refine Wp_seq ?_
 obtain ⟨hs32, p33⟩ := hs24.sub (bs' := []) (.cons _ List.Sublist.slnil)
 clear f_a_volumes f_a_sectors f_a_configs f_a_segments f_a_routes f_a_airports f_a_classes f_a_rules
 clear p33 hs24
 refine Wp_region ?_
 refine Rg_op rfl (op_move (v := (Value.int .i64 sector_1.1)) rfl ?_)
 refine Rg_op rfl (op_move (v := (Value.int .i64 sector_2.1)) rfl ?_)
 refine Rg_op rfl (op_eql rfl rfl ?_)
 refine Rg_op rfl (op_assign (v := (Value.bool (decide (sector_1.1 = sector_2.1)))) rfl ?_)
 refine Rg_nil ?_
 refine Wp_ret ?_
 have hz := step_all hs32
 refine ⟨_, (show Closes [] _ _ from rfl), [(Value.bool (decide (sector_1.1 = sector_2.1)))], ⟨rfl, trivial⟩, hs32.ext, ?_⟩
 exact Vr.eq (a := vB) (x := (decide (sector_1.1 = sector_2.1))) rfl (Option.some.inj hm)

end Go.Fx



set_option linter.unusedVariables false
set_option linter.unusedSimpArgs false
set_option maxRecDepth 100000
set_option maxHeartbeats 0
namespace Go.Fx
open Go Go.RowKit Go.Proofs
def m37_overflightref10_finer_B1 (a : XAirspace) (from_ : Int) (to : Int) (v_1 : Int) (sf8 : Int → Option Bool) (sf21 : Int → Option Bool) (w_1 : Int) : Option Bool :=
 bif (decide (w_1 < v_1)) then
  jn (fun (v_2 : Bool) =>
   bif v_2 then
    some false
   else
    sf21 (IntKind.wrap .i64 (w_1 + 1)))
  (fun k34 =>
   (m44_overflightref10_together a from_ v_1 w_1).bind fun together_1 =>
   bif together_1 then
    (m44_overflightref10_together a to v_1 w_1).bind fun together_2 =>
    k34 (!together_2)
   else
    k34 false)
 else
  sf8 (IntKind.wrap .i64 (v_1 + 1))

def m37_overflightref10_finer_B0 (a : XAirspace) (from_ : Int) (to : Int) (sf8 : Int → Option Bool) (v_1 : Int) : Option Bool :=
 bif (decide (v_1 < (a.volumes.length : Int))) then
  loop1 (m37_overflightref10_finer_B1 a from_ to v_1 sf8) ((v_1 - 0).toNat + 1) 0
 else
  some true

def m37_overflightref10_finer (a : XAirspace) (from_ : Int) (to : Int) : Option Bool :=
 loop1 (m37_overflightref10_finer_B0 a from_ to) (((a.volumes.length : Int) - 0).toNat + 1) 0

theorem c37_overflightref10_finer {w : World} {O : List Nat} {a : XAirspace} {from_ : Int} {to : Int} {a_a_volumes : Option Addr} {c_a_volumes : Nat} {a_a_sectors : Option Addr} {c_a_sectors : Nat} {a_a_configs : Option Addr} {c_a_configs : Nat} {a_a_segments : Option Addr} {c_a_segments : Nat} {a_a_routes : Option Addr} {c_a_routes : Nat} {a_a_airports : Option Addr} {c_a_airports : Nat} {a_a_classes : Option Addr} {c_a_classes : Nat} {a_a_rules : Option Addr} {c_a_rules : Nat} (hO : ∀ k ∈ O, k < w.heap.size) (f_a_volumes : SlR rXVolume w O a_a_volumes c_a_volumes a.volumes) (f_a_sectors : SlR rXSector w O a_a_sectors c_a_sectors a.sectors) (f_a_configs : SlR rXConfig w O a_a_configs c_a_configs a.configs) (f_a_segments : SlR rXSegment w O a_a_segments c_a_segments a.segments) (f_a_routes : SlR rXRoute w O a_a_routes c_a_routes a.routes) (f_a_airports : SlR rXAirport w O a_a_airports c_a_airports a.airports) (f_a_classes : SlR rXClass w O a_a_classes c_a_classes a.classes) (f_a_rules : SlR rXRule w O a_a_rules c_a_rules a.rules) (r_from_ : InK .i64 from_) (r_to : InK .i64 to) {x : Bool} (hm : m37_overflightref10_finer a from_ to = some x) :
  Ok Try.prog 37 [(Value.agg [(Value.slice a_a_volumes a.volumes.length c_a_volumes), (Value.slice a_a_sectors a.sectors.length c_a_sectors), (Value.slice a_a_configs a.configs.length c_a_configs), (Value.slice a_a_segments a.segments.length c_a_segments), (Value.slice a_a_routes a.routes.length c_a_routes), (Value.slice a_a_airports a.airports.length c_a_airports), (Value.slice a_a_classes a.classes.length c_a_classes), (Value.slice a_a_rules a.rules.length c_a_rules)].toArray), (Value.int .i64 from_), (Value.int .i64 to)] w O vB x := by
 unfold m37_overflightref10_finer at hm
 refine Fn_of_Wp (n := 34) (xs := [.tmp 6]) Try.func37 rfl Try.ntmps37 Try.results37 rfl ?_
 have hs := St.start hO
 refine Wp_seq ?_
 refine Wp_region ?_
 refine Rg_op rfl (op_box (cs := [(Value.slice a_a_volumes a.volumes.length c_a_volumes), (Value.slice a_a_sectors a.sectors.length c_a_sectors), (Value.slice a_a_configs a.configs.length c_a_configs), (Value.slice a_a_segments a.segments.length c_a_segments), (Value.slice a_a_routes a.routes.length c_a_routes), (Value.slice a_a_airports a.airports.length c_a_airports), (Value.slice a_a_classes a.classes.length c_a_classes), (Value.slice a_a_rules a.rules.length c_a_rules)]) hs rfl rfl ?_)
 intro b1 w2 _ p3 hs4
 replace f_a_volumes := f_a_volumes.step p3; replace f_a_sectors := f_a_sectors.step p3; replace f_a_configs := f_a_configs.step p3; replace f_a_segments := f_a_segments.step p3; replace f_a_routes := f_a_routes.step p3; replace f_a_airports := f_a_airports.step p3; replace f_a_classes := f_a_classes.step p3; replace f_a_rules := f_a_rules.step p3; clear p3
 refine Rg_op rfl (op_assign (v := (Value.bool false)) rfl ?_)
 refine Rg_nil ?_
 refine Wp_seq ?_
 refine Wp_seq ?_
 refine Wp_region ?_
 refine Rg_op rfl (op_assign (v := (Value.int .i64 0)) rfl ?_)
 refine Rg_nil ?_
 refine Wp_block ?_
 refine Wp_reset [] [(1, (Value.int .i64 from_)), (2, (Value.int .i64 to)), (3, (Value.pointer (some ⟨b1, 0, none⟩))), (7, (Value.int .i64 0))] rfl ⟨rfl, rfl, rfl, rfl, trivial⟩ fun ξ7 => ?_
 refine Wp_loopM [6, 7, 8, 9, 10, 11, 12, 13, 14, 15, 16, 17, 18, 19, 20, 21, 22, 23, 24, 25, 26, 27, 28, 29, 30, 31, 32, 33] (fun m fr w' => ∃ (v_1 : Int) (Ebs : Ents), Ebs = [(some b1, Obj.cells [(Value.slice a_a_volumes a.volumes.length c_a_volumes), (Value.slice a_a_sectors a.sectors.length c_a_sectors), (Value.slice a_a_configs a.configs.length c_a_configs), (Value.slice a_a_segments a.segments.length c_a_segments), (Value.slice a_a_routes a.routes.length c_a_routes), (Value.slice a_a_airports a.airports.length c_a_airports), (Value.slice a_a_classes a.classes.length c_a_classes), (Value.slice a_a_rules a.rules.length c_a_rules)].toArray 31)] ∧ fr [] [(7, (Value.int .i64 v_1))] ∧ Step (ks [(some b1, Obj.cells [(Value.slice a_a_volumes a.volumes.length c_a_volumes), (Value.slice a_a_sectors a.sectors.length c_a_sectors), (Value.slice a_a_configs a.configs.length c_a_configs), (Value.slice a_a_segments a.segments.length c_a_segments), (Value.slice a_a_routes a.routes.length c_a_routes), (Value.slice a_a_airports a.airports.length c_a_airports), (Value.slice a_a_classes a.classes.length c_a_classes), (Value.slice a_a_rules a.rules.length c_a_rules)].toArray 31)] O) w2 (ks Ebs O) w' ∧ St ⟨w, [], []⟩ O w' Ebs ∧ InK .i64 v_1 ∧ loop1 (m37_overflightref10_finer_B0 a from_ to) m v_1 = some x) (((a.volumes.length : Int) - 0).toNat + 1) ⟨0, _, rfl, ⟨Out.refl _ _, rfl, rfl, trivial⟩, Step.refl _ _, hs4, (show InK .i64 0 from by decide), hm⟩ ?_ ?_
 · rintro _ _ ⟨_, _, _, _, _, _, _, hm⟩; exact loop1_z hm
 ·
  rintro m11 K10 hK10 ρ16 w12 ⟨v_1, Ebs, hEbs, hfr15, hst14, hs13, r_y6, hm⟩
  obtain ⟨sf8, hsf9, hm⟩ := loop1_s hm; unfold m37_overflightref10_finer_B0 at hm
  subst hEbs; rw [hfr15.eq]; clear hfr15
  replace f_a_volumes := f_a_volumes.step hst14; replace f_a_sectors := f_a_sectors.step hst14; replace f_a_configs := f_a_configs.step hst14; replace f_a_segments := f_a_segments.step hst14; replace f_a_routes := f_a_routes.step hst14; replace f_a_airports := f_a_airports.step hst14; replace f_a_classes := f_a_classes.step hst14; replace f_a_rules := f_a_rules.step hst14
  have ch17 := hst14
  refine Wp_seq ?_
  refine Wp_seq ?_
  refine Wp_region ?_
  refine Rg_op rfl (op_move (v := (Value.int .i64 v_1)) rfl ?_)
  refine Rg_op rfl (op_fieldAddr ty31 rfl ty22 (by decide) rfl (rfl : _ = (⟨_, 0, none⟩ : Addr)) ?_)
  refine Rg_op rfl (op_load (cs := [(Value.slice a_a_volumes a.volumes.length c_a_volumes), (Value.slice a_a_sectors a.sectors.length c_a_sectors), (Value.slice a_a_configs a.configs.length c_a_configs), (Value.slice a_a_segments a.segments.length c_a_segments), (Value.slice a_a_routes a.routes.length c_a_routes), (Value.slice a_a_airports a.airports.length c_a_airports), (Value.slice a_a_classes a.classes.length c_a_classes), (Value.slice a_a_rules a.rules.length c_a_rules)]) (i := 0) ty22 hs13 rfl rfl rfl ?_)
  refine Rg_op rfl (op_len Try.underlying22 rfl ?_)
  refine Rg_op rfl (op_lss rfl rfl ?_)
  refine Rg_nil ?_
  refine Wp_cond rfl (fun hc18 => ?_) (fun hc18 => ?_)
  ·
   replace hm := bif_t hm hc18
   refine Wp_skip ?_
   refine Wp_seq ?_
   refine Wp_block ?_
   refine Wp_seq ?_
   refine Wp_region ?_
   refine Rg_op rfl (op_assign (v := (Value.int .i64 0)) rfl ?_)
   refine Rg_nil ?_
   refine Wp_block ?_
   refine Wp_reset2 [6, 7, 8, 9, 10, 11, 12, 13, 14, 15, 16, 17, 18, 19, 20, 21, 22, 23, 24, 25, 26, 27, 28, 29, 30, 31, 32, 33] [] (updL ⟨ξ7, []⟩ [(1, (Value.int .i64 from_)), (2, (Value.int .i64 to)), (3, (Value.pointer (some ⟨b1, 0, none⟩))), (7, (Value.int .i64 0))]) [(7, (Value.int .i64 v_1)), (8, (Value.int .i64 0))] (by repeat (first | with_reducible exact Out.refl _ _ | refine Out.upd ?_ rfl | refine Out.updL ?_ rfl | refine Out.mix' ?_ rfl | exact Out.refl _ _)) rfl ⟨rfl, rfl, trivial⟩ fun ξ20 => ?_
   refine Wp_loopM [6, 8, 16, 17, 18, 19, 20, 21, 22, 23, 24, 25, 26, 27, 28, 29, 30, 31, 32, 33] (fun m fr w' => ∃ (w_1 : Int) (Ebs : Ents), Ebs = [(some b1, Obj.cells [(Value.slice a_a_volumes a.volumes.length c_a_volumes), (Value.slice a_a_sectors a.sectors.length c_a_sectors), (Value.slice a_a_configs a.configs.length c_a_configs), (Value.slice a_a_segments a.segments.length c_a_segments), (Value.slice a_a_routes a.routes.length c_a_routes), (Value.slice a_a_airports a.airports.length c_a_airports), (Value.slice a_a_classes a.classes.length c_a_classes), (Value.slice a_a_rules a.rules.length c_a_rules)].toArray 31)] ∧ fr [] [(8, (Value.int .i64 w_1))] ∧ Step (ks [(some b1, Obj.cells [(Value.slice a_a_volumes a.volumes.length c_a_volumes), (Value.slice a_a_sectors a.sectors.length c_a_sectors), (Value.slice a_a_configs a.configs.length c_a_configs), (Value.slice a_a_segments a.segments.length c_a_segments), (Value.slice a_a_routes a.routes.length c_a_routes), (Value.slice a_a_airports a.airports.length c_a_airports), (Value.slice a_a_classes a.classes.length c_a_classes), (Value.slice a_a_rules a.rules.length c_a_rules)].toArray 31)] O) w12 (ks Ebs O) w' ∧ St ⟨w, [], []⟩ O w' Ebs ∧ InK .i64 w_1 ∧ loop1 (m37_overflightref10_finer_B1 a from_ to v_1 sf8) m w_1 = some x) ((v_1 - 0).toNat + 1) ⟨0, _, rfl, ⟨Out.refl _ _, rfl, rfl, trivial⟩, Step.refl _ _, hs13, (show InK .i64 0 from by decide), hm⟩ ?_ ?_
   · rintro _ _ ⟨_, _, _, _, _, _, _, hm⟩; exact loop1_z hm
   ·
    rintro m24 K23 hK23 ρ29 w25 ⟨w_1, Ebs, hEbs, hfr28, hst27, hs26, r_y19, hm⟩
    obtain ⟨sf21, hsf22, hm⟩ := loop1_s hm; unfold m37_overflightref10_finer_B1 at hm
    subst hEbs; rw [hfr28.eq]; clear hfr28
    replace f_a_volumes := f_a_volumes.step hst27; replace f_a_sectors := f_a_sectors.step hst27; replace f_a_configs := f_a_configs.step hst27; replace f_a_segments := f_a_segments.step hst27; replace f_a_routes := f_a_routes.step hst27; replace f_a_airports := f_a_airports.step hst27; replace f_a_classes := f_a_classes.step hst27; replace f_a_rules := f_a_rules.step hst27; replace ch17 := ch17.trans hst27
    have ch30 := hst27
    refine Wp_seq ?_
    refine Wp_seq ?_
    refine Wp_region ?_
    refine Rg_op rfl (op_move (v := (Value.int .i64 w_1)) rfl ?_)
    refine Rg_op rfl (op_move (v := (Value.int .i64 v_1)) rfl ?_)
    refine Rg_op rfl (op_lss rfl rfl ?_)
    refine Rg_nil ?_
    refine Wp_cond rfl (fun hc31 => ?_) (fun hc31 => ?_)
    ·
     replace hm := bif_t hm hc31
     refine Wp_skip ?_
     refine Wp_seq ?_
     refine Wp_block ?_
     refine Wp_reset2 [6, 8, 16, 17, 18, 19, 20, 21, 22, 23, 24, 25, 26, 27, 28, 29, 30, 31, 32, 33] [] (updL (mix [6, 7, 8, 9, 10, 11, 12, 13, 14, 15, 16, 17, 18, 19, 20, 21, 22, 23, 24, 25, 26, 27, 28, 29, 30, 31, 32, 33] [] ξ20 (updL ⟨ξ7, []⟩ [(1, (Value.int .i64 from_)), (2, (Value.int .i64 to)), (3, (Value.pointer (some ⟨b1, 0, none⟩))), (7, (Value.int .i64 0))])) [(7, (Value.int .i64 v_1)), (8, (Value.int .i64 0))]) [(8, (Value.int .i64 w_1))] (by repeat (first | with_reducible exact Out.refl _ _ | refine Out.upd ?_ rfl | refine Out.updL ?_ rfl | refine Out.mix' ?_ rfl | exact Out.refl _ _)) rfl ⟨rfl, trivial⟩ fun ξ32 => ?_
     replace hm := jn_elim hm; obtain ⟨k34, hk35, hm⟩ := hm
     refine Wp_seqJ [21, 22, 23, 24, 25, 26, 27, 28, 29, 30, 31, 32, 33] (fun fr w' => ∃ (v_2 : Bool) (Ebs : Ents), Ebs = [(some b1, Obj.cells [(Value.slice a_a_volumes a.volumes.length c_a_volumes), (Value.slice a_a_sectors a.sectors.length c_a_sectors), (Value.slice a_a_configs a.configs.length c_a_configs), (Value.slice a_a_segments a.segments.length c_a_segments), (Value.slice a_a_routes a.routes.length c_a_routes), (Value.slice a_a_airports a.airports.length c_a_airports), (Value.slice a_a_classes a.classes.length c_a_classes), (Value.slice a_a_rules a.rules.length c_a_rules)].toArray 31)] ∧ fr [] [(33, (Value.bool v_2))] ∧ Step (ks [(some b1, Obj.cells [(Value.slice a_a_volumes a.volumes.length c_a_volumes), (Value.slice a_a_sectors a.sectors.length c_a_sectors), (Value.slice a_a_configs a.configs.length c_a_configs), (Value.slice a_a_segments a.segments.length c_a_segments), (Value.slice a_a_routes a.routes.length c_a_routes), (Value.slice a_a_airports a.airports.length c_a_airports), (Value.slice a_a_classes a.classes.length c_a_classes), (Value.slice a_a_rules a.rules.length c_a_rules)].toArray 31)] O) w25 (ks Ebs O) w' ∧ St ⟨w, [], []⟩ O w' Ebs ∧ k34 v_2 = some x) ?_ ?_
     ·
      rintro ρ41 w37 ⟨v_2, Ebs, hEbs, hfr40, hst39, hs38, hm⟩
      replace hm := jnE1 hk35 hm
      subst hEbs; rw [hfr40.eq]; clear hfr40
      replace f_a_volumes := f_a_volumes.step hst39; replace f_a_sectors := f_a_sectors.step hst39; replace f_a_configs := f_a_configs.step hst39; replace f_a_segments := f_a_segments.step hst39; replace f_a_routes := f_a_routes.step hst39; replace f_a_airports := f_a_airports.step hst39; replace f_a_classes := f_a_classes.step hst39; replace f_a_rules := f_a_rules.step hst39; replace ch17 := ch17.trans hst39; replace ch30 := ch30.trans hst39; clear hst39 hs26
      refine Wp_cond rfl (fun hc42 => ?_) (fun hc42 => ?_)
      ·
       replace hm := bif_t hm hc42
       refine Wp_seq ?_
       refine Wp_region ?_
       refine Rg_op rfl (op_assign (v := (Value.bool false)) rfl ?_)
       refine Rg_nil ?_
       refine Wp_ret ?_
       have hz := step_all hs38
       replace f_a_volumes := f_a_volumes.step hz; replace f_a_sectors := f_a_sectors.step hz; replace f_a_configs := f_a_configs.step hz; replace f_a_segments := f_a_segments.step hz; replace f_a_routes := f_a_routes.step hz; replace f_a_airports := f_a_airports.step hz; replace f_a_classes := f_a_classes.step hz; replace f_a_rules := f_a_rules.step hz
       refine ⟨_, (show Closes [] _ _ from rfl), [(Value.bool false)], ⟨rfl, trivial⟩, hs38.ext, ?_⟩
       exact Vr.eq (a := vB) (x := false) rfl (Option.some.inj hm)
      ·
       replace hm := bif_f hm hc42
       refine Wp_skip ?_
       refine Wp_region ?_
       refine Rg_op rfl (op_move (v := (Value.int .i64 w_1)) rfl ?_)
       refine Rg_op rfl (op_addw rfl rfl ?_)
       refine Rg_op rfl (op_assign (v := (Value.int .i64 (IntKind.wrap .i64 (w_1 + 1)))) rfl ?_)
       refine Rg_nil ?_
       exact hK23 _ _ ⟨(IntKind.wrap .i64 (w_1 + 1)), _, rfl, ⟨(by repeat (first | with_reducible exact Out.refl _ _ | refine Out.upd ?_ rfl | refine Out.updL ?_ rfl | refine Out.mix' ?_ rfl | exact Out.refl _ _)), rfl, rfl, trivial⟩, ch30, hs38, (inK_wrap .i64 _), jnE1 hsf22 hm⟩
     ·
      intro K36 hK36
      have ch43 := Step.refl (ks [(some b1, Obj.cells [(Value.slice a_a_volumes a.volumes.length c_a_volumes), (Value.slice a_a_sectors a.sectors.length c_a_sectors), (Value.slice a_a_configs a.configs.length c_a_configs), (Value.slice a_a_segments a.segments.length c_a_segments), (Value.slice a_a_routes a.routes.length c_a_routes), (Value.slice a_a_airports a.airports.length c_a_airports), (Value.slice a_a_classes a.classes.length c_a_classes), (Value.slice a_a_rules a.rules.length c_a_rules)].toArray 31)] O) w25
      refine Wp_region ?_
      refine Rg_op rfl (op_loadA (cs := [(Value.slice a_a_volumes a.volumes.length c_a_volumes), (Value.slice a_a_sectors a.sectors.length c_a_sectors), (Value.slice a_a_configs a.configs.length c_a_configs), (Value.slice a_a_segments a.segments.length c_a_segments), (Value.slice a_a_routes a.routes.length c_a_routes), (Value.slice a_a_airports a.airports.length c_a_airports), (Value.slice a_a_classes a.classes.length c_a_classes), (Value.slice a_a_rules a.rules.length c_a_rules)]) (vs := [(Value.slice a_a_volumes a.volumes.length c_a_volumes), (Value.slice a_a_sectors a.sectors.length c_a_sectors), (Value.slice a_a_configs a.configs.length c_a_configs), (Value.slice a_a_segments a.segments.length c_a_segments), (Value.slice a_a_routes a.routes.length c_a_routes), (Value.slice a_a_airports a.airports.length c_a_airports), (Value.slice a_a_classes a.classes.length c_a_classes), (Value.slice a_a_rules a.rules.length c_a_rules)]) (i := 0) ty31 hs26 rfl rfl rfl rfl ?_)
      refine Rg_op rfl (op_move (v := (Value.int .i64 from_)) rfl ?_)
      refine Rg_op rfl (op_move (v := (Value.int .i64 v_1)) rfl ?_)
      refine Rg_op rfl (op_move (v := (Value.int .i64 w_1)) rfl ?_)
      replace hm := bd hm; obtain ⟨together_1, hv44, hm⟩ := hm
      refine Rg_op rfl (op_call Try.call44 (c44_overflightref10_together (a := a) (konfig := from_) (v := v_1) (w_ := w_1) hs26.ltw f_a_volumes f_a_sectors f_a_configs f_a_segments f_a_routes f_a_airports f_a_classes f_a_rules r_from_ r_y6 r_y19 hv44) rfl ?_)
      rintro v45 w46 ⟨hx47, h48⟩
      have hs49 := hs26.call hx47
      have p50 := Step.ext (O := ks [(some b1, Obj.cells [(Value.slice a_a_volumes a.volumes.length c_a_volumes), (Value.slice a_a_sectors a.sectors.length c_a_sectors), (Value.slice a_a_configs a.configs.length c_a_configs), (Value.slice a_a_segments a.segments.length c_a_segments), (Value.slice a_a_routes a.routes.length c_a_routes), (Value.slice a_a_airports a.airports.length c_a_airports), (Value.slice a_a_classes a.classes.length c_a_classes), (Value.slice a_a_rules a.rules.length c_a_rules)].toArray 31)] O) hx47
      clear hx47
      replace f_a_volumes := f_a_volumes.step p50; replace f_a_sectors := f_a_sectors.step p50; replace f_a_configs := f_a_configs.step p50; replace f_a_segments := f_a_segments.step p50; replace f_a_routes := f_a_routes.step p50; replace f_a_airports := f_a_airports.step p50; replace f_a_classes := f_a_classes.step p50; replace f_a_rules := f_a_rules.step p50; replace ch17 := ch17.trans p50; replace ch30 := ch30.trans p50; replace ch43 := ch43.trans p50; clear p50 hs26
      obtain rfl := h48
      refine Rg_op rfl (op_move (v := (Value.bool together_1)) rfl ?_)
      refine Rg_case (fun hg52 => ?_) (fun hg52 => ?_)
      ·
       replace hm := bif_t hm hg52
       refine Rg_opg rfl rfl rfl (op_loadA (cs := [(Value.slice a_a_volumes a.volumes.length c_a_volumes), (Value.slice a_a_sectors a.sectors.length c_a_sectors), (Value.slice a_a_configs a.configs.length c_a_configs), (Value.slice a_a_segments a.segments.length c_a_segments), (Value.slice a_a_routes a.routes.length c_a_routes), (Value.slice a_a_airports a.airports.length c_a_airports), (Value.slice a_a_classes a.classes.length c_a_classes), (Value.slice a_a_rules a.rules.length c_a_rules)]) (vs := [(Value.slice a_a_volumes a.volumes.length c_a_volumes), (Value.slice a_a_sectors a.sectors.length c_a_sectors), (Value.slice a_a_configs a.configs.length c_a_configs), (Value.slice a_a_segments a.segments.length c_a_segments), (Value.slice a_a_routes a.routes.length c_a_routes), (Value.slice a_a_airports a.airports.length c_a_airports), (Value.slice a_a_classes a.classes.length c_a_classes), (Value.slice a_a_rules a.rules.length c_a_rules)]) (i := 0) ty31 hs49 rfl rfl rfl rfl ?_)
       refine Rg_opg rfl rfl rfl (op_move (v := (Value.int .i64 to)) rfl ?_)
       refine Rg_opg rfl rfl rfl (op_move (v := (Value.int .i64 v_1)) rfl ?_)
       refine Rg_opg rfl rfl rfl (op_move (v := (Value.int .i64 w_1)) rfl ?_)
       replace hm := bd hm; obtain ⟨together_2, hv53, hm⟩ := hm
       refine Rg_opg rfl rfl rfl (op_call Try.call44 (c44_overflightref10_together (a := a) (konfig := to) (v := v_1) (w_ := w_1) hs49.ltw f_a_volumes f_a_sectors f_a_configs f_a_segments f_a_routes f_a_airports f_a_classes f_a_rules r_to r_y6 r_y19 hv53) rfl ?_)
       rintro v54 w55 ⟨hx56, h57⟩
       have hs58 := hs49.call hx56
       have p59 := Step.ext (O := ks [(some b1, Obj.cells [(Value.slice a_a_volumes a.volumes.length c_a_volumes), (Value.slice a_a_sectors a.sectors.length c_a_sectors), (Value.slice a_a_configs a.configs.length c_a_configs), (Value.slice a_a_segments a.segments.length c_a_segments), (Value.slice a_a_routes a.routes.length c_a_routes), (Value.slice a_a_airports a.airports.length c_a_airports), (Value.slice a_a_classes a.classes.length c_a_classes), (Value.slice a_a_rules a.rules.length c_a_rules)].toArray 31)] O) hx56
       clear hx56
       replace f_a_volumes := f_a_volumes.step p59; replace f_a_sectors := f_a_sectors.step p59; replace f_a_configs := f_a_configs.step p59; replace f_a_segments := f_a_segments.step p59; replace f_a_routes := f_a_routes.step p59; replace f_a_airports := f_a_airports.step p59; replace f_a_classes := f_a_classes.step p59; replace f_a_rules := f_a_rules.step p59; replace ch17 := ch17.trans p59; replace ch30 := ch30.trans p59; replace ch43 := ch43.trans p59; clear p59 hs49
       obtain rfl := h57
       refine Rg_opg rfl rfl rfl (op_not rfl ?_)
       refine Rg_op rfl (op_pick_t (v := (Value.bool (!together_2))) rfl rfl ?_)
       refine Rg_nil ?_
       exact hK36 _ _ ⟨(!together_2), _, rfl, ⟨(by repeat (first | with_reducible exact Out.refl _ _ | refine Out.upd ?_ rfl | refine Out.updL ?_ rfl | refine Out.mix' ?_ rfl | exact Out.refl _ _)), rfl, rfl, trivial⟩, ch43, hs58, hm⟩
      ·
       replace hm := bif_f hm hg52
       iterate 6 refine Rg_opx rfl (asB_ne rfl rfl) rfl ?_
       refine Rg_op rfl (op_pick_f (v := (Value.bool false)) rfl rfl ?_)
       refine Rg_nil ?_
       exact hK36 _ _ ⟨false, _, rfl, ⟨(by repeat (first | with_reducible exact Out.refl _ _ | refine Out.upd ?_ rfl | refine Out.updL ?_ rfl | refine Out.mix' ?_ rfl | exact Out.refl _ _)), rfl, rfl, trivial⟩, ch43, hs49, hm⟩
    ·
     replace hm := bif_f hm hc31
     refine Wp_exit ?_
     refine Wp_region ?_
     refine Rg_op rfl (op_move (v := (Value.int .i64 v_1)) rfl ?_)
     refine Rg_op rfl (op_addw rfl rfl ?_)
     refine Rg_op rfl (op_assign (v := (Value.int .i64 (IntKind.wrap .i64 (v_1 + 1)))) rfl ?_)
     refine Rg_nil ?_
     exact hK10 _ _ ⟨(IntKind.wrap .i64 (v_1 + 1)), _, rfl, ⟨(by repeat (first | with_reducible exact Out.refl _ _ | refine Out.upd ?_ rfl | refine Out.updL ?_ rfl | refine Out.mix' ?_ rfl | exact Out.refl _ _)), rfl, rfl, trivial⟩, ch17, hs26, (inK_wrap .i64 _), jnE1 hsf9 hm⟩
  ·
   replace hm := bif_f hm hc18
   refine Wp_exit ?_
   refine Wp_seq ?_
   obtain ⟨hs61, p62⟩ := hs13.sub (bs' := []) (.cons _ List.Sublist.slnil)
   clear f_a_volumes f_a_sectors f_a_configs f_a_segments f_a_routes f_a_airports f_a_classes f_a_rules
   replace ch17 := ch17.trans p62; clear p62 hs13
   refine Wp_region ?_
   refine Rg_op rfl (op_assign (v := (Value.bool true)) rfl ?_)
   refine Rg_nil ?_
   refine Wp_ret ?_
   have hz := step_all hs61
   refine ⟨_, (show Closes [] _ _ from rfl), [(Value.bool true)], ⟨rfl, trivial⟩, hs61.ext, ?_⟩
   exact Vr.eq (a := vB) (x := true) rfl (Option.some.inj hm)

end Go.Fx



set_option linter.unusedVariables false
set_option linter.unusedSimpArgs false
set_option maxRecDepth 100000
set_option maxHeartbeats 0
namespace Go.Fx
open Go Go.RowKit Go.Proofs
def m20_overflightref10_Step (a : XAirspace) (from_ : Int) (to : Int) : Option Bool :=
 jn (fun (v_1 : Bool) =>
  bif v_1 then
   some false
  else
   ck ((0 : Int) ≤ from_ ∧ from_ < (a.configs.length : Int)) <|
   ck ((0 : Int) ≤ to ∧ to < (a.configs.length : Int)) <|
   bif (decide ((IntKind.wrap .i64 ((((a.configs.getD from_.toNat default).sectors).length : Int) - (((a.configs.getD to.toNat default).sectors).length : Int))) = 0)) then
    bif (decide ((IntKind.wrap .i64 ((((a.configs.getD from_.toNat default).sectors).length : Int) - (((a.configs.getD to.toNat default).sectors).length : Int))) = 0)) then
     (m37_overflightref10_finer a from_ to).bind fun finer_1 =>
     some finer_1
    else
     bif (decide ((IntKind.wrap .i64 ((((a.configs.getD from_.toNat default).sectors).length : Int) - (((a.configs.getD to.toNat default).sectors).length : Int))) = (-1))) then
      (m37_overflightref10_finer a to from_).bind fun finer_2 =>
      some finer_2
     else
      some false
   else
    bif (decide ((IntKind.wrap .i64 ((((a.configs.getD from_.toNat default).sectors).length : Int) - (((a.configs.getD to.toNat default).sectors).length : Int))) = 1)) then
     (m37_overflightref10_finer a from_ to).bind fun finer_3 =>
     some finer_3
    else
     bif (decide ((IntKind.wrap .i64 ((((a.configs.getD from_.toNat default).sectors).length : Int) - (((a.configs.getD to.toNat default).sectors).length : Int))) = (-1))) then
      (m37_overflightref10_finer a to from_).bind fun finer_4 =>
      some finer_4
     else
      some false)
 (fun k8 =>
  (m16_overflightref10_Check a).bind fun check_1 =>
  bif (decide (check_1 ≠ 0)) then
   k8 true
  else
   bif (decide (from_ < 0)) then
    k8 true
   else
    bif (decide ((a.configs.length : Int) ≤ from_)) then
     k8 true
    else
     bif (decide (to < 0)) then
      k8 true
     else
      bif (decide ((a.configs.length : Int) ≤ to)) then
       k8 true
      else
       k8 (decide (from_ = to)))

theorem c20_overflightref10_Step {w : World} {O : List Nat} {a : XAirspace} {from_ : Int} {to : Int} {a_a_volumes : Option Addr} {c_a_volumes : Nat} {a_a_sectors : Option Addr} {c_a_sectors : Nat} {a_a_configs : Option Addr} {c_a_configs : Nat} {a_a_segments : Option Addr} {c_a_segments : Nat} {a_a_routes : Option Addr} {c_a_routes : Nat} {a_a_airports : Option Addr} {c_a_airports : Nat} {a_a_classes : Option Addr} {c_a_classes : Nat} {a_a_rules : Option Addr} {c_a_rules : Nat} (hO : ∀ k ∈ O, k < w.heap.size) (f_a_volumes : SlR rXVolume w O a_a_volumes c_a_volumes a.volumes) (f_a_sectors : SlR rXSector w O a_a_sectors c_a_sectors a.sectors) (f_a_configs : SlR rXConfig w O a_a_configs c_a_configs a.configs) (f_a_segments : SlR rXSegment w O a_a_segments c_a_segments a.segments) (f_a_routes : SlR rXRoute w O a_a_routes c_a_routes a.routes) (f_a_airports : SlR rXAirport w O a_a_airports c_a_airports a.airports) (f_a_classes : SlR rXClass w O a_a_classes c_a_classes a.classes) (f_a_rules : SlR rXRule w O a_a_rules c_a_rules a.rules) (r_from_ : InK .i64 from_) (r_to : InK .i64 to) {x : Bool} (hm : m20_overflightref10_Step a from_ to = some x) :
  Ok Try.prog 20 [(Value.agg [(Value.slice a_a_volumes a.volumes.length c_a_volumes), (Value.slice a_a_sectors a.sectors.length c_a_sectors), (Value.slice a_a_configs a.configs.length c_a_configs), (Value.slice a_a_segments a.segments.length c_a_segments), (Value.slice a_a_routes a.routes.length c_a_routes), (Value.slice a_a_airports a.airports.length c_a_airports), (Value.slice a_a_classes a.classes.length c_a_classes), (Value.slice a_a_rules a.rules.length c_a_rules)].toArray), (Value.int .i64 from_), (Value.int .i64 to)] w O vB x := by
 unfold m20_overflightref10_Step at hm
 refine Fn_of_Wp (n := 67) (xs := [.tmp 6]) Try.func20 rfl Try.ntmps20 Try.results20 rfl ?_
 have hs := St.start hO
 refine Wp_seq ?_
 refine Wp_region ?_
 refine Rg_op rfl (op_box (cs := [(Value.slice a_a_volumes a.volumes.length c_a_volumes), (Value.slice a_a_sectors a.sectors.length c_a_sectors), (Value.slice a_a_configs a.configs.length c_a_configs), (Value.slice a_a_segments a.segments.length c_a_segments), (Value.slice a_a_routes a.routes.length c_a_routes), (Value.slice a_a_airports a.airports.length c_a_airports), (Value.slice a_a_classes a.classes.length c_a_classes), (Value.slice a_a_rules a.rules.length c_a_rules)]) hs rfl rfl ?_)
 intro b1 w2 _ p3 hs4
 replace f_a_volumes := f_a_volumes.step p3; replace f_a_sectors := f_a_sectors.step p3; replace f_a_configs := f_a_configs.step p3; replace f_a_segments := f_a_segments.step p3; replace f_a_routes := f_a_routes.step p3; replace f_a_airports := f_a_airports.step p3; replace f_a_classes := f_a_classes.step p3; replace f_a_rules := f_a_rules.step p3; clear p3
 refine Rg_op rfl (op_assign (v := (Value.bool false)) rfl ?_)
 refine Rg_nil ?_
 refine Wp_seq ?_
 refine Wp_reset [] [(1, (Value.int .i64 from_)), (2, (Value.int .i64 to)), (3, (Value.pointer (some ⟨b1, 0, none⟩)))] rfl ⟨rfl, rfl, rfl, trivial⟩ fun ξ6 => ?_
 replace hm := jn_elim hm; obtain ⟨k8, hk9, hm⟩ := hm
 refine Wp_seqJ [8, 9, 10, 11, 12, 13, 14, 15, 16, 17, 18, 19, 20, 21, 22, 23, 24, 25, 26, 27, 28, 29, 30, 31, 32, 33, 34, 35, 36, 37] (fun fr w' => ∃ (v_1 : Bool) (Ebs : Ents), Ebs = [(some b1, Obj.cells [(Value.slice a_a_volumes a.volumes.length c_a_volumes), (Value.slice a_a_sectors a.sectors.length c_a_sectors), (Value.slice a_a_configs a.configs.length c_a_configs), (Value.slice a_a_segments a.segments.length c_a_segments), (Value.slice a_a_routes a.routes.length c_a_routes), (Value.slice a_a_airports a.airports.length c_a_airports), (Value.slice a_a_classes a.classes.length c_a_classes), (Value.slice a_a_rules a.rules.length c_a_rules)].toArray 31)] ∧ fr [] [(37, (Value.bool v_1))] ∧ Step (ks [(some b1, Obj.cells [(Value.slice a_a_volumes a.volumes.length c_a_volumes), (Value.slice a_a_sectors a.sectors.length c_a_sectors), (Value.slice a_a_configs a.configs.length c_a_configs), (Value.slice a_a_segments a.segments.length c_a_segments), (Value.slice a_a_routes a.routes.length c_a_routes), (Value.slice a_a_airports a.airports.length c_a_airports), (Value.slice a_a_classes a.classes.length c_a_classes), (Value.slice a_a_rules a.rules.length c_a_rules)].toArray 31)] O) w2 (ks Ebs O) w' ∧ St ⟨w, [], []⟩ O w' Ebs ∧ k8 v_1 = some x) ?_ ?_
 ·
  rintro ρ15 w11 ⟨v_1, Ebs, hEbs, hfr14, hst13, hs12, hm⟩
  replace hm := jnE1 hk9 hm
  subst hEbs; rw [hfr14.eq]; clear hfr14
  replace f_a_volumes := f_a_volumes.step hst13; replace f_a_sectors := f_a_sectors.step hst13; replace f_a_configs := f_a_configs.step hst13; replace f_a_segments := f_a_segments.step hst13; replace f_a_routes := f_a_routes.step hst13; replace f_a_airports := f_a_airports.step hst13; replace f_a_classes := f_a_classes.step hst13; replace f_a_rules := f_a_rules.step hst13; clear hst13 hs4
  refine Wp_cond rfl (fun hc16 => ?_) (fun hc16 => ?_)
  ·
   replace hm := bif_t hm hc16
   refine Wp_seq ?_
   obtain ⟨hs17, p18⟩ := hs12.sub (bs' := []) (.cons _ List.Sublist.slnil)
   clear f_a_volumes f_a_sectors f_a_configs f_a_segments f_a_routes f_a_airports f_a_classes f_a_rules
   clear p18 hs12
   refine Wp_region ?_
   refine Rg_op rfl (op_assign (v := (Value.bool false)) rfl ?_)
   refine Rg_nil ?_
   refine Wp_ret ?_
   have hz := step_all hs17
   refine ⟨_, (show Closes [] _ _ from rfl), [(Value.bool false)], ⟨rfl, trivial⟩, hs17.ext, ?_⟩
   exact Vr.eq (a := vB) (x := false) rfl (Option.some.inj hm)
  ·
   replace hm := bif_f hm hc16
   refine Wp_skip ?_
   refine Wp_seq ?_
   refine Wp_drawR (g0 := []) (m := 14) (fl := []) (TS_inv hs12) (.inl rfl) rfl (by decide +kernel) ?_  -- 3
   refine Dw_eq (Value.pointer (some ⟨b1, 2, none⟩)) (fun ρ19 w20 g hle hi ht => ?_) ?_
   ·
    obtain ⟨-, hst, -⟩ := hle
    refine StepOp_plain (op_fieldAddr ty31 rfl ty24 (by decide) (ht 3 rfl) (rfl : _ = (⟨_, 2, none⟩ : Addr)) ?_)
    exact Goes.same hi rfl
   refine Dw_eq (Value.slice a_a_configs a.configs.length c_a_configs) (fun ρ22 w23 g hle hi ht => ?_) ?_
   ·
    obtain ⟨-, hst, -⟩ := hle
    have hsn := (Step.nx hi).1
    refine StepOp_plain (op_load (cs := [(Value.slice a_a_volumes a.volumes.length c_a_volumes), (Value.slice a_a_sectors a.sectors.length c_a_sectors), (Value.slice a_a_configs a.configs.length c_a_configs), (Value.slice a_a_segments a.segments.length c_a_segments), (Value.slice a_a_routes a.routes.length c_a_routes), (Value.slice a_a_airports a.airports.length c_a_airports), (Value.slice a_a_classes a.classes.length c_a_classes), (Value.slice a_a_rules a.rules.length c_a_rules)]) (i := 0) ty24 hsn (ht 38 rfl) rfl rfl ?_)
    exact Goes.same hi rfl
   refine Dw_eq (Value.int .i64 from_) (fun ρ25 w26 g hle hi ht => ?_) ?_
   ·
    obtain ⟨-, hst, -⟩ := hle
    refine StepOp_plain (op_move (v := (Value.int .i64 from_)) (ht 1 rfl) ?_)
    exact Goes.same hi rfl
   replace hm := ck_some hm; obtain ⟨hc31, hm⟩ := hm
   refine Dw_op (VP O [(some b1, Obj.cells [(Value.slice a_a_volumes a.volumes.length c_a_volumes), (Value.slice a_a_sectors a.sectors.length c_a_sectors), (Value.slice a_a_configs a.configs.length c_a_configs), (Value.slice a_a_segments a.segments.length c_a_segments), (Value.slice a_a_routes a.routes.length c_a_routes), (Value.slice a_a_airports a.airports.length c_a_airports), (Value.slice a_a_classes a.classes.length c_a_classes), (Value.slice a_a_rules a.rules.length c_a_rules)].toArray 31)] rXConfig (a.configs.getD from_.toNat default)) (VP.stab _ _) (fun ρ28 w29 g hle hi ht => ?_) ?_
   ·
    obtain ⟨-, hst, -⟩ := hle
    replace f_a_configs := f_a_configs.step hst
    refine StepOp_plain (op_indexAddr (q := rXConfig) ty24 ty52 (ht 39 rfl) (ht 40 rfl) f_a_configs rfl hc31.1 hc31.2 ?_)
    intro p32 f33
    exact Goes.same hi ⟨_, rfl, f33⟩
   refine Dw_op (VP O [(some b1, Obj.cells [(Value.slice a_a_volumes a.volumes.length c_a_volumes), (Value.slice a_a_sectors a.sectors.length c_a_sectors), (Value.slice a_a_configs a.configs.length c_a_configs), (Value.slice a_a_segments a.segments.length c_a_segments), (Value.slice a_a_routes a.routes.length c_a_routes), (Value.slice a_a_airports a.airports.length c_a_airports), (Value.slice a_a_classes a.classes.length c_a_classes), (Value.slice a_a_rules a.rules.length c_a_rules)].toArray 31)] (rSl (rInt .i64)) ((a.configs.getD from_.toNat default).sectors)) (VP.stab _ _) (fun ρ34 w35 g hle hi ht => ?_) ?_
   ·
    obtain ⟨-, hst, -⟩ := hle
    obtain ⟨p37, q38, f39⟩ := ht 41 rfl
    refine StepOp_plain (op_fieldAddr ty52 rfl ty39 (by decide) q38 rfl ?_)
    have f40 := f39.via.snd.snd
    exact Goes.same hi ⟨_, rfl, f40⟩
   refine Dw_op (VD O [(some b1, Obj.cells [(Value.slice a_a_volumes a.volumes.length c_a_volumes), (Value.slice a_a_sectors a.sectors.length c_a_sectors), (Value.slice a_a_configs a.configs.length c_a_configs), (Value.slice a_a_segments a.segments.length c_a_segments), (Value.slice a_a_routes a.routes.length c_a_routes), (Value.slice a_a_airports a.airports.length c_a_airports), (Value.slice a_a_classes a.classes.length c_a_classes), (Value.slice a_a_rules a.rules.length c_a_rules)].toArray 31)] (vC (rSl (rInt .i64))) ((a.configs.getD from_.toNat default).sectors)) (VD.stab _ _) (fun ρ41 w42 g hle hi ht => ?_) ?_
   ·
    obtain ⟨-, hst, -⟩ := hle
    obtain ⟨p44, q45, f46⟩ := ht 42 rfl
    refine StepOp_plain (op_loadP ty39 q45 f46 rfl ?_)
    intro v47 h48
    obtain ⟨a_y49, c_y49, rfl, f_y49⟩ := un_sl h48
    exact Goes.same hi (show Vr.vd (vC (rSl (rInt .i64))) _ _ _ _ from (mkC (mk_sl f_y49)))
   refine Dw_op (VD O [(some b1, Obj.cells [(Value.slice a_a_volumes a.volumes.length c_a_volumes), (Value.slice a_a_sectors a.sectors.length c_a_sectors), (Value.slice a_a_configs a.configs.length c_a_configs), (Value.slice a_a_segments a.segments.length c_a_segments), (Value.slice a_a_routes a.routes.length c_a_routes), (Value.slice a_a_airports a.airports.length c_a_airports), (Value.slice a_a_classes a.classes.length c_a_classes), (Value.slice a_a_rules a.rules.length c_a_rules)].toArray 31)] (vI .i64) (((a.configs.getD from_.toNat default).sectors).length : Int)) (VD.stab _ _) (fun ρ50 w51 g hle hi ht => ?_) ?_
   ·
    obtain ⟨-, hst, -⟩ := hle
    have h53 : Vr.vd (vC (rSl (rInt .i64))) _ _ _ _ := ht 43 rfl
    obtain ⟨a_y55, c_y55, q54, f_y55⟩ := un_sl h53
    refine StepOp_plain (op_len Try.underlying39 q54 ?_)
    exact Goes.same hi (show Vr.vd (vI .i64) _ _ _ _ from ⟨rfl, (inK_len f_y55)⟩)
   refine Dw_eq (Value.pointer (some ⟨b1, 2, none⟩)) (fun ρ56 w57 g hle hi ht => ?_) ?_
   ·
    obtain ⟨-, hst, -⟩ := hle
    refine StepOp_plain (op_fieldAddr ty31 rfl ty24 (by decide) (ht 3 rfl) (rfl : _ = (⟨_, 2, none⟩ : Addr)) ?_)
    exact Goes.same hi rfl
   refine Dw_eq (Value.slice a_a_configs a.configs.length c_a_configs) (fun ρ59 w60 g hle hi ht => ?_) ?_
   ·
    obtain ⟨-, hst, -⟩ := hle
    have hsn := (Step.nx hi).1
    refine StepOp_plain (op_load (cs := [(Value.slice a_a_volumes a.volumes.length c_a_volumes), (Value.slice a_a_sectors a.sectors.length c_a_sectors), (Value.slice a_a_configs a.configs.length c_a_configs), (Value.slice a_a_segments a.segments.length c_a_segments), (Value.slice a_a_routes a.routes.length c_a_routes), (Value.slice a_a_airports a.airports.length c_a_airports), (Value.slice a_a_classes a.classes.length c_a_classes), (Value.slice a_a_rules a.rules.length c_a_rules)]) (i := 0) ty24 hsn (ht 45 rfl) rfl rfl ?_)
    exact Goes.same hi rfl
   refine Dw_eq (Value.int .i64 to) (fun ρ62 w63 g hle hi ht => ?_) ?_
   ·
    obtain ⟨-, hst, -⟩ := hle
    refine StepOp_plain (op_move (v := (Value.int .i64 to)) (ht 2 rfl) ?_)
    exact Goes.same hi rfl
   replace hm := ck_some hm; obtain ⟨hc68, hm⟩ := hm
   refine Dw_op (VP O [(some b1, Obj.cells [(Value.slice a_a_volumes a.volumes.length c_a_volumes), (Value.slice a_a_sectors a.sectors.length c_a_sectors), (Value.slice a_a_configs a.configs.length c_a_configs), (Value.slice a_a_segments a.segments.length c_a_segments), (Value.slice a_a_routes a.routes.length c_a_routes), (Value.slice a_a_airports a.airports.length c_a_airports), (Value.slice a_a_classes a.classes.length c_a_classes), (Value.slice a_a_rules a.rules.length c_a_rules)].toArray 31)] rXConfig (a.configs.getD to.toNat default)) (VP.stab _ _) (fun ρ65 w66 g hle hi ht => ?_) ?_
   ·
    obtain ⟨-, hst, -⟩ := hle
    replace f_a_configs := f_a_configs.step hst
    refine StepOp_plain (op_indexAddr (q := rXConfig) ty24 ty52 (ht 46 rfl) (ht 47 rfl) f_a_configs rfl hc68.1 hc68.2 ?_)
    intro p69 f70
    exact Goes.same hi ⟨_, rfl, f70⟩
   refine Dw_op (VP O [(some b1, Obj.cells [(Value.slice a_a_volumes a.volumes.length c_a_volumes), (Value.slice a_a_sectors a.sectors.length c_a_sectors), (Value.slice a_a_configs a.configs.length c_a_configs), (Value.slice a_a_segments a.segments.length c_a_segments), (Value.slice a_a_routes a.routes.length c_a_routes), (Value.slice a_a_airports a.airports.length c_a_airports), (Value.slice a_a_classes a.classes.length c_a_classes), (Value.slice a_a_rules a.rules.length c_a_rules)].toArray 31)] (rSl (rInt .i64)) ((a.configs.getD to.toNat default).sectors)) (VP.stab _ _) (fun ρ71 w72 g hle hi ht => ?_) ?_
   ·
    obtain ⟨-, hst, -⟩ := hle
    obtain ⟨p74, q75, f76⟩ := ht 48 rfl
    refine StepOp_plain (op_fieldAddr ty52 rfl ty39 (by decide) q75 rfl ?_)
    have f77 := f76.via.snd.snd
    exact Goes.same hi ⟨_, rfl, f77⟩
   refine Dw_op (VD O [(some b1, Obj.cells [(Value.slice a_a_volumes a.volumes.length c_a_volumes), (Value.slice a_a_sectors a.sectors.length c_a_sectors), (Value.slice a_a_configs a.configs.length c_a_configs), (Value.slice a_a_segments a.segments.length c_a_segments), (Value.slice a_a_routes a.routes.length c_a_routes), (Value.slice a_a_airports a.airports.length c_a_airports), (Value.slice a_a_classes a.classes.length c_a_classes), (Value.slice a_a_rules a.rules.length c_a_rules)].toArray 31)] (vC (rSl (rInt .i64))) ((a.configs.getD to.toNat default).sectors)) (VD.stab _ _) (fun ρ78 w79 g hle hi ht => ?_) ?_
   ·
    obtain ⟨-, hst, -⟩ := hle
    obtain ⟨p81, q82, f83⟩ := ht 49 rfl
    refine StepOp_plain (op_loadP ty39 q82 f83 rfl ?_)
    intro v84 h85
    obtain ⟨a_y86, c_y86, rfl, f_y86⟩ := un_sl h85
    exact Goes.same hi (show Vr.vd (vC (rSl (rInt .i64))) _ _ _ _ from (mkC (mk_sl f_y86)))
   refine Dw_op (VD O [(some b1, Obj.cells [(Value.slice a_a_volumes a.volumes.length c_a_volumes), (Value.slice a_a_sectors a.sectors.length c_a_sectors), (Value.slice a_a_configs a.configs.length c_a_configs), (Value.slice a_a_segments a.segments.length c_a_segments), (Value.slice a_a_routes a.routes.length c_a_routes), (Value.slice a_a_airports a.airports.length c_a_airports), (Value.slice a_a_classes a.classes.length c_a_classes), (Value.slice a_a_rules a.rules.length c_a_rules)].toArray 31)] (vI .i64) (((a.configs.getD to.toNat default).sectors).length : Int)) (VD.stab _ _) (fun ρ87 w88 g hle hi ht => ?_) ?_
   ·
    obtain ⟨-, hst, -⟩ := hle
    have h90 : Vr.vd (vC (rSl (rInt .i64))) _ _ _ _ := ht 50 rfl
    obtain ⟨a_y92, c_y92, q91, f_y92⟩ := un_sl h90
    refine StepOp_plain (op_len Try.underlying39 q91 ?_)
    exact Goes.same hi (show Vr.vd (vI .i64) _ _ _ _ from ⟨rfl, (inK_len f_y92)⟩)
   refine Dw_nil fun w97 g98 hl99 hi100 => ?_
   obtain ⟨-, hst101, -⟩ := hl99
   obtain ⟨hs103, p102⟩ := Step.nx hi100
   rintro v104 h105
   replace h105 : Vr.vd (vI .i64) _ _ _ _ := h105
   obtain ⟨rfl, r_y106⟩ := h105
   rintro v107 h108
   replace h108 : Vr.vd (vC (rSl (rInt .i64))) _ _ _ _ := h108
   obtain ⟨a_y109, c_y109, rfl, f_y109⟩ := un_sl h108
   rintro _ ⟨p110, rfl, f111⟩
   rintro _ ⟨p112, rfl, f113⟩
   rintro _ rfl
   rintro _ rfl
   rintro _ rfl
   rintro v114 h115
   replace h115 : Vr.vd (vI .i64) _ _ _ _ := h115
   obtain ⟨rfl, r_y116⟩ := h115
   rintro v117 h118
   replace h118 : Vr.vd (vC (rSl (rInt .i64))) _ _ _ _ := h118
   obtain ⟨a_y119, c_y119, rfl, f_y119⟩ := un_sl h118
   rintro _ ⟨p120, rfl, f121⟩
   rintro _ ⟨p122, rfl, f123⟩
   rintro _ rfl
   rintro _ rfl
   rintro _ rfl
   have p124 : Step (ks [(some b1, Obj.cells [(Value.slice a_a_volumes a.volumes.length c_a_volumes), (Value.slice a_a_sectors a.sectors.length c_a_sectors), (Value.slice a_a_configs a.configs.length c_a_configs), (Value.slice a_a_segments a.segments.length c_a_segments), (Value.slice a_a_routes a.routes.length c_a_routes), (Value.slice a_a_airports a.airports.length c_a_airports), (Value.slice a_a_classes a.classes.length c_a_classes), (Value.slice a_a_rules a.rules.length c_a_rules)].toArray 31)] O) w11 (ks [(some b1, Obj.cells [(Value.slice a_a_volumes a.volumes.length c_a_volumes), (Value.slice a_a_sectors a.sectors.length c_a_sectors), (Value.slice a_a_configs a.configs.length c_a_configs), (Value.slice a_a_segments a.segments.length c_a_segments), (Value.slice a_a_routes a.routes.length c_a_routes), (Value.slice a_a_airports a.airports.length c_a_airports), (Value.slice a_a_classes a.classes.length c_a_classes), (Value.slice a_a_rules a.rules.length c_a_rules)].toArray 31)] O) w97 := hst101.trans p102
   replace f_y109 := f_y109.step p102; replace f111 := f111.step p102; replace f113 := f113.step p102; replace f_y119 := f_y119.step p102; replace f121 := f121.step p102; replace f123 := f123.step p102; replace f_a_volumes := f_a_volumes.step p124; replace f_a_sectors := f_a_sectors.step p124; replace f_a_configs := f_a_configs.step p124; replace f_a_segments := f_a_segments.step p124; replace f_a_routes := f_a_routes.step p124; replace f_a_airports := f_a_airports.step p124; replace f_a_classes := f_a_classes.step p124; replace f_a_rules := f_a_rules.step p124; clear p124 hs12
   refine Rg_op rfl (op_subw rfl rfl ?_)
   refine Rg_op rfl (op_assign (v := (Value.int .i64 (IntKind.wrap .i64 ((((a.configs.getD from_.toNat default).sectors).length : Int) - (((a.configs.getD to.toNat default).sectors).length : Int))))) rfl ?_)
   refine Rg_nil ?_
   refine Wp_seq ?_
   refine Wp_seq ?_
   clear f_y109 f111 f113 f_y119 f121 f123
   refine Wp_region ?_
   refine Rg_op rfl (op_move (v := (Value.int .i64 (IntKind.wrap .i64 ((((a.configs.getD from_.toNat default).sectors).length : Int) - (((a.configs.getD to.toNat default).sectors).length : Int))))) rfl ?_)
   refine Rg_nil ?_
   refine Wp_block ?_
   refine Wp_seq ?_
   refine Wp_seq ?_
   refine Wp_region ?_
   refine Rg_op rfl (op_eql rfl rfl ?_)
   refine Rg_op rfl (op_assign (v := (Value.bool (decide ((IntKind.wrap .i64 ((((a.configs.getD from_.toNat default).sectors).length : Int) - (((a.configs.getD to.toNat default).sectors).length : Int))) = 0)))) rfl ?_)
   refine Rg_nil ?_
   refine Wp_cond rfl (fun hc125 => ?_) (fun hc125 => ?_)
   ·
    replace hm := bif_t hm hc125
    refine Wp_skip ?_
    refine Wp_cond rfl (fun hc126 => ?_) (fun hc126 => ?_)
    ·
     replace hm := bif_t hm hc126
     refine Wp_seq ?_
     refine Wp_region ?_
     refine Rg_op rfl (op_loadA (cs := [(Value.slice a_a_volumes a.volumes.length c_a_volumes), (Value.slice a_a_sectors a.sectors.length c_a_sectors), (Value.slice a_a_configs a.configs.length c_a_configs), (Value.slice a_a_segments a.segments.length c_a_segments), (Value.slice a_a_routes a.routes.length c_a_routes), (Value.slice a_a_airports a.airports.length c_a_airports), (Value.slice a_a_classes a.classes.length c_a_classes), (Value.slice a_a_rules a.rules.length c_a_rules)]) (vs := [(Value.slice a_a_volumes a.volumes.length c_a_volumes), (Value.slice a_a_sectors a.sectors.length c_a_sectors), (Value.slice a_a_configs a.configs.length c_a_configs), (Value.slice a_a_segments a.segments.length c_a_segments), (Value.slice a_a_routes a.routes.length c_a_routes), (Value.slice a_a_airports a.airports.length c_a_airports), (Value.slice a_a_classes a.classes.length c_a_classes), (Value.slice a_a_rules a.rules.length c_a_rules)]) (i := 0) ty31 hs103 rfl rfl rfl rfl ?_)
     refine Rg_op rfl (op_move (v := (Value.int .i64 from_)) rfl ?_)
     refine Rg_op rfl (op_move (v := (Value.int .i64 to)) rfl ?_)
     replace hm := bd hm; obtain ⟨finer_1, hv127, hm⟩ := hm
     refine Rg_op rfl (op_call Try.call37 (c37_overflightref10_finer (a := a) (from_ := from_) (to := to) hs103.ltw f_a_volumes f_a_sectors f_a_configs f_a_segments f_a_routes f_a_airports f_a_classes f_a_rules r_from_ r_to hv127) rfl ?_)
     rintro v128 w129 ⟨hx130, h131⟩
     have hs132 := hs103.call hx130
     have p133 := Step.ext (O := ks [(some b1, Obj.cells [(Value.slice a_a_volumes a.volumes.length c_a_volumes), (Value.slice a_a_sectors a.sectors.length c_a_sectors), (Value.slice a_a_configs a.configs.length c_a_configs), (Value.slice a_a_segments a.segments.length c_a_segments), (Value.slice a_a_routes a.routes.length c_a_routes), (Value.slice a_a_airports a.airports.length c_a_airports), (Value.slice a_a_classes a.classes.length c_a_classes), (Value.slice a_a_rules a.rules.length c_a_rules)].toArray 31)] O) hx130
     clear hx130
     replace f_a_volumes := f_a_volumes.step p133; replace f_a_sectors := f_a_sectors.step p133; replace f_a_configs := f_a_configs.step p133; replace f_a_segments := f_a_segments.step p133; replace f_a_routes := f_a_routes.step p133; replace f_a_airports := f_a_airports.step p133; replace f_a_classes := f_a_classes.step p133; replace f_a_rules := f_a_rules.step p133; clear p133 hs103
     obtain rfl := h131
     refine Rg_op rfl (op_assign (v := (Value.bool finer_1)) rfl ?_)
     refine Rg_nil ?_
     refine Wp_ret ?_
     have hz := step_all hs132
     replace f_a_volumes := f_a_volumes.step hz; replace f_a_sectors := f_a_sectors.step hz; replace f_a_configs := f_a_configs.step hz; replace f_a_segments := f_a_segments.step hz; replace f_a_routes := f_a_routes.step hz; replace f_a_airports := f_a_airports.step hz; replace f_a_classes := f_a_classes.step hz; replace f_a_rules := f_a_rules.step hz
     refine ⟨_, (show Closes [] _ _ from rfl), [(Value.bool finer_1)], ⟨rfl, trivial⟩, hs132.ext, ?_⟩
     exact Vr.eq (a := vB) (x := finer_1) rfl (Option.some.inj hm)
    ·
     replace hm := bif_f hm hc126
     refine Wp_seq ?_
     refine Wp_region ?_
     refine Rg_op rfl (op_eql rfl rfl ?_)
     refine Rg_op rfl (op_assign (v := (Value.bool (decide ((IntKind.wrap .i64 ((((a.configs.getD from_.toNat default).sectors).length : Int) - (((a.configs.getD to.toNat default).sectors).length : Int))) = (-1))))) rfl ?_)
     refine Rg_nil ?_
     refine Wp_cond rfl (fun hc135 => ?_) (fun hc135 => ?_)
     ·
      replace hm := bif_t hm hc135
      refine Wp_seq ?_
      refine Wp_reset [] [(1, (Value.int .i64 from_)), (2, (Value.int .i64 to)), (3, (Value.pointer (some ⟨b1, 0, none⟩)))] rfl ⟨rfl, rfl, rfl, trivial⟩ fun ξ136 => ?_
      refine Wp_region ?_
      refine Rg_op rfl (op_loadA (cs := [(Value.slice a_a_volumes a.volumes.length c_a_volumes), (Value.slice a_a_sectors a.sectors.length c_a_sectors), (Value.slice a_a_configs a.configs.length c_a_configs), (Value.slice a_a_segments a.segments.length c_a_segments), (Value.slice a_a_routes a.routes.length c_a_routes), (Value.slice a_a_airports a.airports.length c_a_airports), (Value.slice a_a_classes a.classes.length c_a_classes), (Value.slice a_a_rules a.rules.length c_a_rules)]) (vs := [(Value.slice a_a_volumes a.volumes.length c_a_volumes), (Value.slice a_a_sectors a.sectors.length c_a_sectors), (Value.slice a_a_configs a.configs.length c_a_configs), (Value.slice a_a_segments a.segments.length c_a_segments), (Value.slice a_a_routes a.routes.length c_a_routes), (Value.slice a_a_airports a.airports.length c_a_airports), (Value.slice a_a_classes a.classes.length c_a_classes), (Value.slice a_a_rules a.rules.length c_a_rules)]) (i := 0) ty31 hs103 rfl rfl rfl rfl ?_)
      refine Rg_op rfl (op_move (v := (Value.int .i64 to)) rfl ?_)
      refine Rg_op rfl (op_move (v := (Value.int .i64 from_)) rfl ?_)
      replace hm := bd hm; obtain ⟨finer_2, hv137, hm⟩ := hm
      refine Rg_op rfl (op_call Try.call37 (c37_overflightref10_finer (a := a) (from_ := to) (to := from_) hs103.ltw f_a_volumes f_a_sectors f_a_configs f_a_segments f_a_routes f_a_airports f_a_classes f_a_rules r_to r_from_ hv137) rfl ?_)
      rintro v138 w139 ⟨hx140, h141⟩
      have hs142 := hs103.call hx140
      have p143 := Step.ext (O := ks [(some b1, Obj.cells [(Value.slice a_a_volumes a.volumes.length c_a_volumes), (Value.slice a_a_sectors a.sectors.length c_a_sectors), (Value.slice a_a_configs a.configs.length c_a_configs), (Value.slice a_a_segments a.segments.length c_a_segments), (Value.slice a_a_routes a.routes.length c_a_routes), (Value.slice a_a_airports a.airports.length c_a_airports), (Value.slice a_a_classes a.classes.length c_a_classes), (Value.slice a_a_rules a.rules.length c_a_rules)].toArray 31)] O) hx140
      clear hx140
      replace f_a_volumes := f_a_volumes.step p143; replace f_a_sectors := f_a_sectors.step p143; replace f_a_configs := f_a_configs.step p143; replace f_a_segments := f_a_segments.step p143; replace f_a_routes := f_a_routes.step p143; replace f_a_airports := f_a_airports.step p143; replace f_a_classes := f_a_classes.step p143; replace f_a_rules := f_a_rules.step p143; clear p143 hs103
      obtain rfl := h141
      refine Rg_op rfl (op_assign (v := (Value.bool finer_2)) rfl ?_)
      refine Rg_nil ?_
      refine Wp_ret ?_
      have hz := step_all hs142
      replace f_a_volumes := f_a_volumes.step hz; replace f_a_sectors := f_a_sectors.step hz; replace f_a_configs := f_a_configs.step hz; replace f_a_segments := f_a_segments.step hz; replace f_a_routes := f_a_routes.step hz; replace f_a_airports := f_a_airports.step hz; replace f_a_classes := f_a_classes.step hz; replace f_a_rules := f_a_rules.step hz
      refine ⟨_, (show Closes [] _ _ from rfl), [(Value.bool finer_2)], ⟨rfl, trivial⟩, hs142.ext, ?_⟩
      exact Vr.eq (a := vB) (x := finer_2) rfl (Option.some.inj hm)
     ·
      replace hm := bif_f hm hc135
      refine Wp_skip ?_
      refine Wp_seq ?_
      obtain ⟨hs145, p146⟩ := hs103.sub (bs' := []) (.cons _ List.Sublist.slnil)
      clear f_a_volumes f_a_sectors f_a_configs f_a_segments f_a_routes f_a_airports f_a_classes f_a_rules
      clear p146 hs103
      refine Wp_region ?_
      refine Rg_op rfl (op_assign (v := (Value.bool false)) rfl ?_)
      refine Rg_nil ?_
      refine Wp_ret ?_
      have hz := step_all hs145
      refine ⟨_, (show Closes [] _ _ from rfl), [(Value.bool false)], ⟨rfl, trivial⟩, hs145.ext, ?_⟩
      exact Vr.eq (a := vB) (x := false) rfl (Option.some.inj hm)
   ·
    replace hm := bif_f hm hc125
    refine Wp_region ?_
    refine Rg_op rfl (op_eql rfl rfl ?_)
    refine Rg_op rfl (op_assign (v := (Value.bool (decide ((IntKind.wrap .i64 ((((a.configs.getD from_.toNat default).sectors).length : Int) - (((a.configs.getD to.toNat default).sectors).length : Int))) = 1)))) rfl ?_)
    refine Rg_nil ?_
    refine Wp_cond rfl (fun hc147 => ?_) (fun hc147 => ?_)
    ·
     replace hm := bif_t hm hc147
     refine Wp_seq ?_
     refine Wp_reset [] [(1, (Value.int .i64 from_)), (2, (Value.int .i64 to)), (3, (Value.pointer (some ⟨b1, 0, none⟩)))] rfl ⟨rfl, rfl, rfl, trivial⟩ fun ξ148 => ?_
     refine Wp_region ?_
     refine Rg_op rfl (op_loadA (cs := [(Value.slice a_a_volumes a.volumes.length c_a_volumes), (Value.slice a_a_sectors a.sectors.length c_a_sectors), (Value.slice a_a_configs a.configs.length c_a_configs), (Value.slice a_a_segments a.segments.length c_a_segments), (Value.slice a_a_routes a.routes.length c_a_routes), (Value.slice a_a_airports a.airports.length c_a_airports), (Value.slice a_a_classes a.classes.length c_a_classes), (Value.slice a_a_rules a.rules.length c_a_rules)]) (vs := [(Value.slice a_a_volumes a.volumes.length c_a_volumes), (Value.slice a_a_sectors a.sectors.length c_a_sectors), (Value.slice a_a_configs a.configs.length c_a_configs), (Value.slice a_a_segments a.segments.length c_a_segments), (Value.slice a_a_routes a.routes.length c_a_routes), (Value.slice a_a_airports a.airports.length c_a_airports), (Value.slice a_a_classes a.classes.length c_a_classes), (Value.slice a_a_rules a.rules.length c_a_rules)]) (i := 0) ty31 hs103 rfl rfl rfl rfl ?_)
     refine Rg_op rfl (op_move (v := (Value.int .i64 from_)) rfl ?_)
     refine Rg_op rfl (op_move (v := (Value.int .i64 to)) rfl ?_)
     replace hm := bd hm; obtain ⟨finer_3, hv149, hm⟩ := hm
     refine Rg_op rfl (op_call Try.call37 (c37_overflightref10_finer (a := a) (from_ := from_) (to := to) hs103.ltw f_a_volumes f_a_sectors f_a_configs f_a_segments f_a_routes f_a_airports f_a_classes f_a_rules r_from_ r_to hv149) rfl ?_)
     rintro v150 w151 ⟨hx152, h153⟩
     have hs154 := hs103.call hx152
     have p155 := Step.ext (O := ks [(some b1, Obj.cells [(Value.slice a_a_volumes a.volumes.length c_a_volumes), (Value.slice a_a_sectors a.sectors.length c_a_sectors), (Value.slice a_a_configs a.configs.length c_a_configs), (Value.slice a_a_segments a.segments.length c_a_segments), (Value.slice a_a_routes a.routes.length c_a_routes), (Value.slice a_a_airports a.airports.length c_a_airports), (Value.slice a_a_classes a.classes.length c_a_classes), (Value.slice a_a_rules a.rules.length c_a_rules)].toArray 31)] O) hx152
     clear hx152
     replace f_a_volumes := f_a_volumes.step p155; replace f_a_sectors := f_a_sectors.step p155; replace f_a_configs := f_a_configs.step p155; replace f_a_segments := f_a_segments.step p155; replace f_a_routes := f_a_routes.step p155; replace f_a_airports := f_a_airports.step p155; replace f_a_classes := f_a_classes.step p155; replace f_a_rules := f_a_rules.step p155; clear p155 hs103
     obtain rfl := h153
     refine Rg_op rfl (op_assign (v := (Value.bool finer_3)) rfl ?_)
     refine Rg_nil ?_
     refine Wp_ret ?_
     have hz := step_all hs154
     replace f_a_volumes := f_a_volumes.step hz; replace f_a_sectors := f_a_sectors.step hz; replace f_a_configs := f_a_configs.step hz; replace f_a_segments := f_a_segments.step hz; replace f_a_routes := f_a_routes.step hz; replace f_a_airports := f_a_airports.step hz; replace f_a_classes := f_a_classes.step hz; replace f_a_rules := f_a_rules.step hz
     refine ⟨_, (show Closes [] _ _ from rfl), [(Value.bool finer_3)], ⟨rfl, trivial⟩, hs154.ext, ?_⟩
     exact Vr.eq (a := vB) (x := finer_3) rfl (Option.some.inj hm)
    ·
     replace hm := bif_f hm hc147
     refine Wp_seq ?_
     refine Wp_reset [] [(1, (Value.int .i64 from_)), (2, (Value.int .i64 to)), (3, (Value.pointer (some ⟨b1, 0, none⟩))), (53, (Value.int .i64 (IntKind.wrap .i64 ((((a.configs.getD from_.toNat default).sectors).length : Int) - (((a.configs.getD to.toNat default).sectors).length : Int)))))] rfl ⟨rfl, rfl, rfl, rfl, trivial⟩ fun ξ157 => ?_
     refine Wp_region ?_
     refine Rg_op rfl (op_eql rfl rfl ?_)
     refine Rg_op rfl (op_assign (v := (Value.bool (decide ((IntKind.wrap .i64 ((((a.configs.getD from_.toNat default).sectors).length : Int) - (((a.configs.getD to.toNat default).sectors).length : Int))) = (-1))))) rfl ?_)
     refine Rg_nil ?_
     refine Wp_cond rfl (fun hc158 => ?_) (fun hc158 => ?_)
     ·
      replace hm := bif_t hm hc158
      refine Wp_seq ?_
      refine Wp_region ?_
      refine Rg_op rfl (op_loadA (cs := [(Value.slice a_a_volumes a.volumes.length c_a_volumes), (Value.slice a_a_sectors a.sectors.length c_a_sectors), (Value.slice a_a_configs a.configs.length c_a_configs), (Value.slice a_a_segments a.segments.length c_a_segments), (Value.slice a_a_routes a.routes.length c_a_routes), (Value.slice a_a_airports a.airports.length c_a_airports), (Value.slice a_a_classes a.classes.length c_a_classes), (Value.slice a_a_rules a.rules.length c_a_rules)]) (vs := [(Value.slice a_a_volumes a.volumes.length c_a_volumes), (Value.slice a_a_sectors a.sectors.length c_a_sectors), (Value.slice a_a_configs a.configs.length c_a_configs), (Value.slice a_a_segments a.segments.length c_a_segments), (Value.slice a_a_routes a.routes.length c_a_routes), (Value.slice a_a_airports a.airports.length c_a_airports), (Value.slice a_a_classes a.classes.length c_a_classes), (Value.slice a_a_rules a.rules.length c_a_rules)]) (i := 0) ty31 hs103 rfl rfl rfl rfl ?_)
      refine Rg_op rfl (op_move (v := (Value.int .i64 to)) rfl ?_)
      refine Rg_op rfl (op_move (v := (Value.int .i64 from_)) rfl ?_)
      replace hm := bd hm; obtain ⟨finer_4, hv159, hm⟩ := hm
      refine Rg_op rfl (op_call Try.call37 (c37_overflightref10_finer (a := a) (from_ := to) (to := from_) hs103.ltw f_a_volumes f_a_sectors f_a_configs f_a_segments f_a_routes f_a_airports f_a_classes f_a_rules r_to r_from_ hv159) rfl ?_)
      rintro v160 w161 ⟨hx162, h163⟩
      have hs164 := hs103.call hx162
      have p165 := Step.ext (O := ks [(some b1, Obj.cells [(Value.slice a_a_volumes a.volumes.length c_a_volumes), (Value.slice a_a_sectors a.sectors.length c_a_sectors), (Value.slice a_a_configs a.configs.length c_a_configs), (Value.slice a_a_segments a.segments.length c_a_segments), (Value.slice a_a_routes a.routes.length c_a_routes), (Value.slice a_a_airports a.airports.length c_a_airports), (Value.slice a_a_classes a.classes.length c_a_classes), (Value.slice a_a_rules a.rules.length c_a_rules)].toArray 31)] O) hx162
      clear hx162
      replace f_a_volumes := f_a_volumes.step p165; replace f_a_sectors := f_a_sectors.step p165; replace f_a_configs := f_a_configs.step p165; replace f_a_segments := f_a_segments.step p165; replace f_a_routes := f_a_routes.step p165; replace f_a_airports := f_a_airports.step p165; replace f_a_classes := f_a_classes.step p165; replace f_a_rules := f_a_rules.step p165; clear p165 hs103
      obtain rfl := h163
      refine Rg_op rfl (op_assign (v := (Value.bool finer_4)) rfl ?_)
      refine Rg_nil ?_
      refine Wp_ret ?_
      have hz := step_all hs164
      replace f_a_volumes := f_a_volumes.step hz; replace f_a_sectors := f_a_sectors.step hz; replace f_a_configs := f_a_configs.step hz; replace f_a_segments := f_a_segments.step hz; replace f_a_routes := f_a_routes.step hz; replace f_a_airports := f_a_airports.step hz; replace f_a_classes := f_a_classes.step hz; replace f_a_rules := f_a_rules.step hz
      refine ⟨_, (show Closes [] _ _ from rfl), [(Value.bool finer_4)], ⟨rfl, trivial⟩, hs164.ext, ?_⟩
      exact Vr.eq (a := vB) (x := finer_4) rfl (Option.some.inj hm)
     ·
      replace hm := bif_f hm hc158
      refine Wp_skip ?_
      refine Wp_seq ?_
      obtain ⟨hs167, p168⟩ := hs103.sub (bs' := []) (.cons _ List.Sublist.slnil)
      clear f_a_volumes f_a_sectors f_a_configs f_a_segments f_a_routes f_a_airports f_a_classes f_a_rules
      clear p168 hs103
      refine Wp_region ?_
      refine Rg_op rfl (op_assign (v := (Value.bool false)) rfl ?_)
      refine Rg_nil ?_
      refine Wp_ret ?_
      have hz := step_all hs167
      refine ⟨_, (show Closes [] _ _ from rfl), [(Value.bool false)], ⟨rfl, trivial⟩, hs167.ext, ?_⟩
      exact Vr.eq (a := vB) (x := false) rfl (Option.some.inj hm)
 ·
  intro K10 hK10
  have ch169 := Step.refl (ks [(some b1, Obj.cells [(Value.slice a_a_volumes a.volumes.length c_a_volumes), (Value.slice a_a_sectors a.sectors.length c_a_sectors), (Value.slice a_a_configs a.configs.length c_a_configs), (Value.slice a_a_segments a.segments.length c_a_segments), (Value.slice a_a_routes a.routes.length c_a_routes), (Value.slice a_a_airports a.airports.length c_a_airports), (Value.slice a_a_classes a.classes.length c_a_classes), (Value.slice a_a_rules a.rules.length c_a_rules)].toArray 31)] O) w2
  refine Wp_region ?_
  refine Rg_op rfl (op_loadA (cs := [(Value.slice a_a_volumes a.volumes.length c_a_volumes), (Value.slice a_a_sectors a.sectors.length c_a_sectors), (Value.slice a_a_configs a.configs.length c_a_configs), (Value.slice a_a_segments a.segments.length c_a_segments), (Value.slice a_a_routes a.routes.length c_a_routes), (Value.slice a_a_airports a.airports.length c_a_airports), (Value.slice a_a_classes a.classes.length c_a_classes), (Value.slice a_a_rules a.rules.length c_a_rules)]) (vs := [(Value.slice a_a_volumes a.volumes.length c_a_volumes), (Value.slice a_a_sectors a.sectors.length c_a_sectors), (Value.slice a_a_configs a.configs.length c_a_configs), (Value.slice a_a_segments a.segments.length c_a_segments), (Value.slice a_a_routes a.routes.length c_a_routes), (Value.slice a_a_airports a.airports.length c_a_airports), (Value.slice a_a_classes a.classes.length c_a_classes), (Value.slice a_a_rules a.rules.length c_a_rules)]) (i := 0) ty31 hs4 rfl rfl rfl rfl ?_)
  replace hm := bd hm; obtain ⟨check_1, hv170, hm⟩ := hm
  refine Rg_op rfl (op_call Try.call16 (c16_overflightref10_Check (a := a) hs4.ltw f_a_volumes f_a_sectors f_a_configs f_a_segments f_a_routes f_a_airports f_a_classes f_a_rules hv170) rfl ?_)
  rintro v171 w172 ⟨hx173, h174⟩
  have hs175 := hs4.call hx173
  have p176 := Step.ext (O := ks [(some b1, Obj.cells [(Value.slice a_a_volumes a.volumes.length c_a_volumes), (Value.slice a_a_sectors a.sectors.length c_a_sectors), (Value.slice a_a_configs a.configs.length c_a_configs), (Value.slice a_a_segments a.segments.length c_a_segments), (Value.slice a_a_routes a.routes.length c_a_routes), (Value.slice a_a_airports a.airports.length c_a_airports), (Value.slice a_a_classes a.classes.length c_a_classes), (Value.slice a_a_rules a.rules.length c_a_rules)].toArray 31)] O) hx173
  clear hx173
  replace f_a_volumes := f_a_volumes.step p176; replace f_a_sectors := f_a_sectors.step p176; replace f_a_configs := f_a_configs.step p176; replace f_a_segments := f_a_segments.step p176; replace f_a_routes := f_a_routes.step p176; replace f_a_airports := f_a_airports.step p176; replace f_a_classes := f_a_classes.step p176; replace f_a_rules := f_a_rules.step p176; replace ch169 := ch169.trans p176; clear p176 hs4
  obtain ⟨rfl, r_y177⟩ := h174
  refine Rg_op rfl (op_neq rfl rfl ?_)
  refine Rg_op rfl (op_move (v := (Value.bool (decide (check_1 ≠ 0)))) rfl ?_)
  refine Rg_case (fun hg178 => ?_) (fun hg178 => ?_)
  ·
   replace hm := bif_t hm hg178
   iterate 2 refine Rg_opx rfl (asB_ne rfl rfl) rfl ?_
   refine Rg_op rfl (op_pick_t (v := (Value.bool true)) rfl rfl ?_)
   refine Rg_op rfl (op_move (v := (Value.bool true)) rfl ?_)
   iterate 5 refine Rg_opx rfl (asB_ne rfl rfl) rfl ?_
   refine Rg_op rfl (op_pick_t (v := (Value.bool true)) rfl rfl ?_)
   refine Rg_op rfl (op_move (v := (Value.bool true)) rfl ?_)
   iterate 2 refine Rg_opx rfl (asB_ne rfl rfl) rfl ?_
   refine Rg_op rfl (op_pick_t (v := (Value.bool true)) rfl rfl ?_)
   refine Rg_op rfl (op_move (v := (Value.bool true)) rfl ?_)
   iterate 5 refine Rg_opx rfl (asB_ne rfl rfl) rfl ?_
   refine Rg_op rfl (op_pick_t (v := (Value.bool true)) rfl rfl ?_)
   refine Rg_op rfl (op_move (v := (Value.bool true)) rfl ?_)
   iterate 3 refine Rg_opx rfl (asB_ne rfl rfl) rfl ?_
   refine Rg_op rfl (op_pick_t (v := (Value.bool true)) rfl rfl ?_)
   refine Rg_nil ?_
   exact hK10 _ _ ⟨true, _, rfl, ⟨(by repeat (first | with_reducible exact Out.refl _ _ | refine Out.upd ?_ rfl | refine Out.updL ?_ rfl | refine Out.mix' ?_ rfl | exact Out.refl _ _)), rfl, rfl, trivial⟩, ch169, hs175, hm⟩
  ·
   replace hm := bif_f hm hg178
   refine Rg_opg rfl rfl rfl (op_move (v := (Value.int .i64 from_)) rfl ?_)
   refine Rg_opg rfl rfl rfl (op_lss rfl rfl ?_)
   refine Rg_op rfl (op_pick_f (v := (Value.bool (decide (from_ < 0)))) rfl rfl ?_)
   refine Rg_op rfl (op_move (v := (Value.bool (decide (from_ < 0)))) rfl ?_)
   refine Rg_case (fun hg179 => ?_) (fun hg179 => ?_)
   ·
    replace hm := bif_t hm hg179
    iterate 5 refine Rg_opx rfl (asB_ne rfl rfl) rfl ?_
    refine Rg_op rfl (op_pick_t (v := (Value.bool true)) rfl rfl ?_)
    refine Rg_op rfl (op_move (v := (Value.bool true)) rfl ?_)
    iterate 2 refine Rg_opx rfl (asB_ne rfl rfl) rfl ?_
    refine Rg_op rfl (op_pick_t (v := (Value.bool true)) rfl rfl ?_)
    refine Rg_op rfl (op_move (v := (Value.bool true)) rfl ?_)
    iterate 5 refine Rg_opx rfl (asB_ne rfl rfl) rfl ?_
    refine Rg_op rfl (op_pick_t (v := (Value.bool true)) rfl rfl ?_)
    refine Rg_op rfl (op_move (v := (Value.bool true)) rfl ?_)
    iterate 3 refine Rg_opx rfl (asB_ne rfl rfl) rfl ?_
    refine Rg_op rfl (op_pick_t (v := (Value.bool true)) rfl rfl ?_)
    refine Rg_nil ?_
    exact hK10 _ _ ⟨true, _, rfl, ⟨(by repeat (first | with_reducible exact Out.refl _ _ | refine Out.upd ?_ rfl | refine Out.updL ?_ rfl | refine Out.mix' ?_ rfl | exact Out.refl _ _)), rfl, rfl, trivial⟩, ch169, hs175, hm⟩
   ·
    replace hm := bif_f hm hg179
    refine Rg_opg rfl rfl rfl (op_move (v := (Value.int .i64 from_)) rfl ?_)
    refine Rg_opg rfl rfl rfl (op_fieldAddr ty31 rfl ty24 (by decide) rfl (rfl : _ = (⟨_, 2, none⟩ : Addr)) ?_)
    refine Rg_opg rfl rfl rfl (op_load (cs := [(Value.slice a_a_volumes a.volumes.length c_a_volumes), (Value.slice a_a_sectors a.sectors.length c_a_sectors), (Value.slice a_a_configs a.configs.length c_a_configs), (Value.slice a_a_segments a.segments.length c_a_segments), (Value.slice a_a_routes a.routes.length c_a_routes), (Value.slice a_a_airports a.airports.length c_a_airports), (Value.slice a_a_classes a.classes.length c_a_classes), (Value.slice a_a_rules a.rules.length c_a_rules)]) (i := 0) ty24 hs175 rfl rfl rfl ?_)
    refine Rg_opg rfl rfl rfl (op_len Try.underlying24 rfl ?_)
    refine Rg_opg rfl rfl rfl (op_geq rfl rfl ?_)
    refine Rg_op rfl (op_pick_f (v := (Value.bool (decide ((a.configs.length : Int) ≤ from_)))) rfl rfl ?_)
    refine Rg_op rfl (op_move (v := (Value.bool (decide ((a.configs.length : Int) ≤ from_)))) rfl ?_)
    refine Rg_case (fun hg180 => ?_) (fun hg180 => ?_)
    ·
     replace hm := bif_t hm hg180
     iterate 2 refine Rg_opx rfl (asB_ne rfl rfl) rfl ?_
     refine Rg_op rfl (op_pick_t (v := (Value.bool true)) rfl rfl ?_)
     refine Rg_op rfl (op_move (v := (Value.bool true)) rfl ?_)
     iterate 5 refine Rg_opx rfl (asB_ne rfl rfl) rfl ?_
     refine Rg_op rfl (op_pick_t (v := (Value.bool true)) rfl rfl ?_)
     refine Rg_op rfl (op_move (v := (Value.bool true)) rfl ?_)
     iterate 3 refine Rg_opx rfl (asB_ne rfl rfl) rfl ?_
     refine Rg_op rfl (op_pick_t (v := (Value.bool true)) rfl rfl ?_)
     refine Rg_nil ?_
     exact hK10 _ _ ⟨true, _, rfl, ⟨(by repeat (first | with_reducible exact Out.refl _ _ | refine Out.upd ?_ rfl | refine Out.updL ?_ rfl | refine Out.mix' ?_ rfl | exact Out.refl _ _)), rfl, rfl, trivial⟩, ch169, hs175, hm⟩
    ·
     replace hm := bif_f hm hg180
     refine Rg_opg rfl rfl rfl (op_move (v := (Value.int .i64 to)) rfl ?_)
     refine Rg_opg rfl rfl rfl (op_lss rfl rfl ?_)
     refine Rg_op rfl (op_pick_f (v := (Value.bool (decide (to < 0)))) rfl rfl ?_)
     refine Rg_op rfl (op_move (v := (Value.bool (decide (to < 0)))) rfl ?_)
     refine Rg_case (fun hg181 => ?_) (fun hg181 => ?_)
     ·
      replace hm := bif_t hm hg181
      iterate 5 refine Rg_opx rfl (asB_ne rfl rfl) rfl ?_
      refine Rg_op rfl (op_pick_t (v := (Value.bool true)) rfl rfl ?_)
      refine Rg_op rfl (op_move (v := (Value.bool true)) rfl ?_)
      iterate 3 refine Rg_opx rfl (asB_ne rfl rfl) rfl ?_
      refine Rg_op rfl (op_pick_t (v := (Value.bool true)) rfl rfl ?_)
      refine Rg_nil ?_
      exact hK10 _ _ ⟨true, _, rfl, ⟨(by repeat (first | with_reducible exact Out.refl _ _ | refine Out.upd ?_ rfl | refine Out.updL ?_ rfl | refine Out.mix' ?_ rfl | exact Out.refl _ _)), rfl, rfl, trivial⟩, ch169, hs175, hm⟩
     ·
      replace hm := bif_f hm hg181
      refine Rg_opg rfl rfl rfl (op_move (v := (Value.int .i64 to)) rfl ?_)
      refine Rg_opg rfl rfl rfl (op_fieldAddr ty31 rfl ty24 (by decide) rfl (rfl : _ = (⟨_, 2, none⟩ : Addr)) ?_)
      refine Rg_opg rfl rfl rfl (op_load (cs := [(Value.slice a_a_volumes a.volumes.length c_a_volumes), (Value.slice a_a_sectors a.sectors.length c_a_sectors), (Value.slice a_a_configs a.configs.length c_a_configs), (Value.slice a_a_segments a.segments.length c_a_segments), (Value.slice a_a_routes a.routes.length c_a_routes), (Value.slice a_a_airports a.airports.length c_a_airports), (Value.slice a_a_classes a.classes.length c_a_classes), (Value.slice a_a_rules a.rules.length c_a_rules)]) (i := 0) ty24 hs175 rfl rfl rfl ?_)
      refine Rg_opg rfl rfl rfl (op_len Try.underlying24 rfl ?_)
      refine Rg_opg rfl rfl rfl (op_geq rfl rfl ?_)
      refine Rg_op rfl (op_pick_f (v := (Value.bool (decide ((a.configs.length : Int) ≤ to)))) rfl rfl ?_)
      refine Rg_op rfl (op_move (v := (Value.bool (decide ((a.configs.length : Int) ≤ to)))) rfl ?_)
      refine Rg_case (fun hg182 => ?_) (fun hg182 => ?_)
      ·
       replace hm := bif_t hm hg182
       iterate 3 refine Rg_opx rfl (asB_ne rfl rfl) rfl ?_
       refine Rg_op rfl (op_pick_t (v := (Value.bool true)) rfl rfl ?_)
       refine Rg_nil ?_
       exact hK10 _ _ ⟨true, _, rfl, ⟨(by repeat (first | with_reducible exact Out.refl _ _ | refine Out.upd ?_ rfl | refine Out.updL ?_ rfl | refine Out.mix' ?_ rfl | exact Out.refl _ _)), rfl, rfl, trivial⟩, ch169, hs175, hm⟩
      ·
       replace hm := bif_f hm hg182
       refine Rg_opg rfl rfl rfl (op_move (v := (Value.int .i64 from_)) rfl ?_)
       refine Rg_opg rfl rfl rfl (op_move (v := (Value.int .i64 to)) rfl ?_)
       refine Rg_opg rfl rfl rfl (op_eql rfl rfl ?_)
       refine Rg_op rfl (op_pick_f (v := (Value.bool (decide (from_ = to)))) rfl rfl ?_)
       refine Rg_nil ?_
       exact hK10 _ _ ⟨(decide (from_ = to)), _, rfl, ⟨(by repeat (first | with_reducible exact Out.refl _ _ | refine Out.upd ?_ rfl | refine Out.updL ?_ rfl | refine Out.mix' ?_ rfl | exact Out.refl _ _)), rfl, rfl, trivial⟩, ch169, hs175, hm⟩

end Go.Fx



set_option linter.unusedVariables false
set_option linter.unusedSimpArgs false
set_option maxRecDepth 100000
set_option maxHeartbeats 0
namespace Go.Fx
open Go Go.RowKit Go.Proofs
def m35_overflightref10_distances_B2 (a : XAirspace) (q_1 : Int) (sf59 : (List Int) → (List Int) → Int → Option (List Int)) (sf74 : (List Int) → (List Int) → Int → Option (List Int)) (d_3 : List Int) (queue_2 : List Int) (i_2 : Int) : Option (List Int) :=
 bif (decide (i_2 < (a.configs.length : Int))) then
  jn (fun (v_1 : Bool) =>
   bif v_1 then
    ck ((0 : Int) ≤ q_1 ∧ q_1 < (queue_2.length : Int)) <|
    ck ((0 : Int) ≤ (queue_2.getD q_1.toNat default) ∧ (queue_2.getD q_1.toNat default) < (d_3.length : Int)) <|
    ck ((0 : Int) ≤ i_2 ∧ i_2 < (d_3.length : Int)) <|
    ck ((queue_2.length + [i_2].length) * 8 ≤ 140737488355328) <|
    sf74 (d_3.set i_2.toNat (IntKind.wrap .i64 ((d_3.getD (queue_2.getD q_1.toNat default).toNat default) + 1))) (queue_2 ++ [i_2]) (IntKind.wrap .i64 (i_2 + 1))
   else
    sf74 d_3 queue_2 (IntKind.wrap .i64 (i_2 + 1)))
  (fun k86 =>
   ck ((0 : Int) ≤ i_2 ∧ i_2 < (d_3.length : Int)) <|
   bif (decide ((d_3.getD i_2.toNat default) = 33)) then
    ck ((0 : Int) ≤ q_1 ∧ q_1 < (queue_2.length : Int)) <|
    (m20_overflightref10_Step a i_2 (queue_2.getD q_1.toNat default)).bind fun step_1 =>
    k86 step_1
   else
    k86 false)
 else
  sf59 d_3 queue_2 (IntKind.wrap .i64 (q_1 + 1))

def m35_overflightref10_distances_B1 (a : XAirspace) (sf59 : (List Int) → (List Int) → Int → Option (List Int)) (d_2 : List Int) (queue_1 : List Int) (q_1 : Int) : Option (List Int) :=
 bif (decide (q_1 < (queue_1.length : Int))) then
  loop3 (m35_overflightref10_distances_B2 a q_1 sf59) (((a.configs.length : Int) - 0).toNat + 1) d_2 queue_1 0
 else
  some d_2

def m35_overflightref10_distances_B0 (a : XAirspace) (to : Int) (sf15 : (List Int) → Int → Option (List Int)) (d_1 : List Int) (i_1 : Int) : Option (List Int) :=
 bif (decide (i_1 < (a.configs.length : Int))) then
  ck ((d_1.length + [33].length) * 8 ≤ 140737488355328) <|
  sf15 (d_1 ++ [33]) (IntKind.wrap .i64 (i_1 + 1))
 else
  ck ((0 : Int) ≤ to ∧ to < (d_1.length : Int)) <|
  loop3 (m35_overflightref10_distances_B1 a) (1000000) (d_1.set to.toNat 0) [to] 0

def m35_overflightref10_distances (a : XAirspace) (to : Int) : Option (List Int) :=
 loop2 (m35_overflightref10_distances_B0 a to) (((a.configs.length : Int) - 0).toNat + 1) [] 0

theorem g35_overflightref10_distances {w : World} {O : List Nat} {a : XAirspace} {to : Int} {a_a_volumes : Option Addr} {c_a_volumes : Nat} {a_a_sectors : Option Addr} {c_a_sectors : Nat} {a_a_configs : Option Addr} {c_a_configs : Nat} {a_a_segments : Option Addr} {c_a_segments : Nat} {a_a_routes : Option Addr} {c_a_routes : Nat} {a_a_airports : Option Addr} {c_a_airports : Nat} {a_a_classes : Option Addr} {c_a_classes : Nat} {a_a_rules : Option Addr} {c_a_rules : Nat} (hO : ∀ k ∈ O, k < w.heap.size) (f_a_volumes : SlR rXVolume w O a_a_volumes c_a_volumes a.volumes) (f_a_sectors : SlR rXSector w O a_a_sectors c_a_sectors a.sectors) (f_a_configs : SlR rXConfig w O a_a_configs c_a_configs a.configs) (f_a_segments : SlR rXSegment w O a_a_segments c_a_segments a.segments) (f_a_routes : SlR rXRoute w O a_a_routes c_a_routes a.routes) (f_a_airports : SlR rXAirport w O a_a_airports c_a_airports a.airports) (f_a_classes : SlR rXClass w O a_a_classes c_a_classes a.classes) (f_a_rules : SlR rXRule w O a_a_rules c_a_rules a.rules) (r_to : InK .i64 to) {x : (List Int)} (hm : m35_overflightref10_distances a to = some x) :
  OkG Try.prog 35 [(Value.agg [(Value.slice a_a_volumes a.volumes.length c_a_volumes), (Value.slice a_a_sectors a.sectors.length c_a_sectors), (Value.slice a_a_configs a.configs.length c_a_configs), (Value.slice a_a_segments a.segments.length c_a_segments), (Value.slice a_a_routes a.routes.length c_a_routes), (Value.slice a_a_airports a.airports.length c_a_airports), (Value.slice a_a_classes a.classes.length c_a_classes), (Value.slice a_a_rules a.rules.length c_a_rules)].toArray), (Value.int .i64 to)] w O (rInt .i64) 3 x := by
 unfold m35_overflightref10_distances at hm
 refine Fn_of_Wp (n := 69) (xs := [.tmp 4]) Try.func35 rfl Try.ntmps35 Try.results35 rfl ?_
 have hs := St.start hO
 refine Wp_seq ?_
 refine Wp_region ?_
 refine Rg_op rfl (op_box (cs := [(Value.slice a_a_volumes a.volumes.length c_a_volumes), (Value.slice a_a_sectors a.sectors.length c_a_sectors), (Value.slice a_a_configs a.configs.length c_a_configs), (Value.slice a_a_segments a.segments.length c_a_segments), (Value.slice a_a_routes a.routes.length c_a_routes), (Value.slice a_a_airports a.airports.length c_a_airports), (Value.slice a_a_classes a.classes.length c_a_classes), (Value.slice a_a_rules a.rules.length c_a_rules)]) hs rfl rfl ?_)
 intro b1 w2 _ p3 hs4
 replace f_a_volumes := f_a_volumes.step p3; replace f_a_sectors := f_a_sectors.step p3; replace f_a_configs := f_a_configs.step p3; replace f_a_segments := f_a_segments.step p3; replace f_a_routes := f_a_routes.step p3; replace f_a_airports := f_a_airports.step p3; replace f_a_classes := f_a_classes.step p3; replace f_a_rules := f_a_rules.step p3; clear p3
 refine Rg_op rfl (op_assign (v := (Value.slice none 0 0)) rfl ?_)
 refine Rg_nil ?_
 refine Wp_seq ?_
 refine Wp_region ?_
 refine Rg_op rfl (op_buildSlice (cs := []) (parts := []) ty39 ty3 hs4 (by decide) rfl ?_)
 intro b6 w7 hx10 p8 hs9
 replace f_a_volumes := f_a_volumes.step p8; replace f_a_sectors := f_a_sectors.step p8; replace f_a_configs := f_a_configs.step p8; replace f_a_segments := f_a_segments.step p8; replace f_a_routes := f_a_routes.step p8; replace f_a_airports := f_a_airports.step p8; replace f_a_classes := f_a_classes.step p8; replace f_a_rules := f_a_rules.step p8; clear p8 hs4
 refine Rg_op rfl (op_assign (v := (Value.slice (some ⟨b6, 0, none⟩) 0 0)) rfl ?_)
 refine Rg_nil ?_
 refine Wp_seq ?_
 refine Wp_seq ?_
 refine Wp_region ?_
 refine Rg_op rfl (op_assign (v := (Value.int .i64 0)) rfl ?_)
 refine Rg_nil ?_
 refine Wp_block ?_
 refine Wp_reset [] [(1, (Value.int .i64 to)), (2, (Value.pointer (some ⟨b1, 0, none⟩))), (5, (Value.slice (some ⟨b6, 0, none⟩) 0 0)), (6, (Value.int .i64 0))] rfl ⟨rfl, rfl, rfl, rfl, trivial⟩ fun ξ14 => ?_
 have f19 := Gs.of_cells (p := (rInt .i64)) (e := 3) (bl := b6) (c := 0) (w := w7) (O := ks [(some b6, Obj.cells [].toArray 3), (some b1, Obj.cells [(Value.slice a_a_volumes a.volumes.length c_a_volumes), (Value.slice a_a_sectors a.sectors.length c_a_sectors), (Value.slice a_a_configs a.configs.length c_a_configs), (Value.slice a_a_segments a.segments.length c_a_segments), (Value.slice a_a_routes a.routes.length c_a_routes), (Value.slice a_a_airports a.airports.length c_a_airports), (Value.slice a_a_classes a.classes.length c_a_classes), (Value.slice a_a_rules a.rules.length c_a_rules)].toArray 31)] O) (show Els (rInt .i64) _ _ [] [] from Els.nil) rfl (le_lit rfl)
 refine Wp_loopM [5, 6, 11, 12, 13, 14, 15, 16, 17, 18, 19, 20] (fun m fr w' => ∃ (d_1 : List Int) (i_1 : Int) (a_g12 : Option Addr) (c_g12 : Nat) (k_g12 : Option Nat) (o_g12 : Obj) (Ebs : Ents), Ebs = [(k_g12, o_g12), (some b1, Obj.cells [(Value.slice a_a_volumes a.volumes.length c_a_volumes), (Value.slice a_a_sectors a.sectors.length c_a_sectors), (Value.slice a_a_configs a.configs.length c_a_configs), (Value.slice a_a_segments a.segments.length c_a_segments), (Value.slice a_a_routes a.routes.length c_a_routes), (Value.slice a_a_airports a.airports.length c_a_airports), (Value.slice a_a_classes a.classes.length c_a_classes), (Value.slice a_a_rules a.rules.length c_a_rules)].toArray 31)] ∧ fr [] [(5, (Value.slice a_g12 d_1.length c_g12)), (6, (Value.int .i64 i_1))] ∧ Step (ks [(some b6, Obj.cells [].toArray 3), (some b1, Obj.cells [(Value.slice a_a_volumes a.volumes.length c_a_volumes), (Value.slice a_a_sectors a.sectors.length c_a_sectors), (Value.slice a_a_configs a.configs.length c_a_configs), (Value.slice a_a_segments a.segments.length c_a_segments), (Value.slice a_a_routes a.routes.length c_a_routes), (Value.slice a_a_airports a.airports.length c_a_airports), (Value.slice a_a_classes a.classes.length c_a_classes), (Value.slice a_a_rules a.rules.length c_a_rules)].toArray 31)] O) w7 (ks Ebs O) w' ∧ St ⟨w, [], []⟩ O w' Ebs ∧ Gs (rInt .i64) 3 w' (ks Ebs O) a_g12 c_g12 d_1 k_g12 o_g12 ∧ InK .i64 i_1 ∧ loop2 (m35_overflightref10_distances_B0 a to) m d_1 i_1 = some x) (((a.configs.length : Int) - 0).toNat + 1) ⟨[], 0, (some ⟨b6, 0, none⟩), 0, (some b6), (Obj.cells [].toArray 3), _, rfl, ⟨Out.refl _ _, rfl, rfl, rfl, trivial⟩, Step.refl _ _, hs9, f19, (show InK .i64 0 from by decide), hm⟩ ?_ ?_
 · rintro _ _ ⟨_, _, _, _, _, _, _, _, _, _, _, _, _, hm⟩; exact loop2_z hm
 ·
  rintro m18 K17 hK17 ρ24 w20 ⟨d_1, i_1, a_g12, c_g12, k_g12, o_g12, Ebs, hEbs, hfr23, hst22, hs21, f_g12, r_y13, hm⟩
  obtain ⟨sf15, hsf16, hm⟩ := loop2_s hm; unfold m35_overflightref10_distances_B0 at hm
  subst hEbs; rw [hfr23.eq]; clear hfr23
  replace f_a_volumes := f_a_volumes.step hst22; replace f_a_sectors := f_a_sectors.step hst22; replace f_a_configs := f_a_configs.step hst22; replace f_a_segments := f_a_segments.step hst22; replace f_a_routes := f_a_routes.step hst22; replace f_a_airports := f_a_airports.step hst22; replace f_a_classes := f_a_classes.step hst22; replace f_a_rules := f_a_rules.step hst22; replace f19 := f19.step hst22
  have ch25 := hst22
  refine Wp_seq ?_
  refine Wp_seq ?_
  clear f19
  refine Wp_region ?_
  refine Rg_op rfl (op_move (v := (Value.int .i64 i_1)) rfl ?_)
  refine Rg_op rfl (op_fieldAddr ty31 rfl ty24 (by decide) rfl (rfl : _ = (⟨_, 2, none⟩ : Addr)) ?_)
  refine Rg_op rfl (op_load (cs := [(Value.slice a_a_volumes a.volumes.length c_a_volumes), (Value.slice a_a_sectors a.sectors.length c_a_sectors), (Value.slice a_a_configs a.configs.length c_a_configs), (Value.slice a_a_segments a.segments.length c_a_segments), (Value.slice a_a_routes a.routes.length c_a_routes), (Value.slice a_a_airports a.airports.length c_a_airports), (Value.slice a_a_classes a.classes.length c_a_classes), (Value.slice a_a_rules a.rules.length c_a_rules)]) (i := 1) ty24 hs21 rfl rfl rfl ?_)
  refine Rg_op rfl (op_len Try.underlying24 rfl ?_)
  refine Rg_op rfl (op_lss rfl rfl ?_)
  refine Rg_nil ?_
  refine Wp_cond rfl (fun hc26 => ?_) (fun hc26 => ?_)
  ·
   replace hm := bif_t hm hc26
   refine Wp_skip ?_
   refine Wp_seq ?_
   refine Wp_block ?_
   refine Wp_region ?_
   refine Rg_op rfl (op_move (v := (Value.slice a_g12 d_1.length c_g12)) rfl ?_)
   refine Rg_op rfl (op_buildSlice (cs := [(Value.int .i64 33)]) (parts := [(0, .const (.int .i64 33))]) ty39 ty3 hs21 (by decide) rfl ?_)
   intro b27 w28 hx31 p29 hs30
   replace f_a_volumes := f_a_volumes.step p29; replace f_a_sectors := f_a_sectors.step p29; replace f_a_configs := f_a_configs.step p29; replace f_a_segments := f_a_segments.step p29; replace f_a_routes := f_a_routes.step p29; replace f_a_airports := f_a_airports.step p29; replace f_a_classes := f_a_classes.step p29; replace f_a_rules := f_a_rules.step p29; replace f_g12 := f_g12.step p29; replace ch25 := ch25.trans p29; clear p29 hs21
   replace hm := ck_some hm; obtain ⟨hc33, hm⟩ := hm
   refine Rg_op rfl (op_append (q := (rInt .i64)) (i := 1) (xs := d_1) (ys := [33]) (news := [(Value.int .i64 33)]) ty39 ty3 rfl (by decide) hs30 rfl rfl f_g12 rfl (Src.owned' (len := 1) (hs30.get (i := 0) rfl) rfl) (show Els (rInt .i64) _ _ [(Value.int .i64 33)] [33] from ⟨_, _, rfl, (mk_int (show InK .i64 33 from by decide)), Els.nil⟩) hc33 (by have := hc33; simp only [maxLen]; omega) ?_)
   intro a37 c38 k39 o40 w34 p35 hs36 f41
   replace f_a_volumes := f_a_volumes.step p35; replace f_a_sectors := f_a_sectors.step p35; replace f_a_configs := f_a_configs.step p35; replace f_a_segments := f_a_segments.step p35; replace f_a_routes := f_a_routes.step p35; replace f_a_airports := f_a_airports.step p35; replace f_a_classes := f_a_classes.step p35; replace f_a_rules := f_a_rules.step p35; replace ch25 := ch25.trans p35; clear p35 hs30
   have hs42 := hs36.drop 0
   replace f_a_volumes := f_a_volumes.step (hs36.dropS 0)
   replace f_a_sectors := f_a_sectors.step (hs36.dropS 0)
   replace f_a_configs := f_a_configs.step (hs36.dropS 0)
   replace f_a_segments := f_a_segments.step (hs36.dropS 0)
   replace f_a_routes := f_a_routes.step (hs36.dropS 0)
   replace f_a_airports := f_a_airports.step (hs36.dropS 0)
   replace f_a_classes := f_a_classes.step (hs36.dropS 0)
   replace f_a_rules := f_a_rules.step (hs36.dropS 0)
   replace f41 := f41.step (hs36.dropS 0)
   replace ch25 := ch25.trans (hs36.dropS 0); clear hs36
   refine Rg_op rfl (op_assign (v := (Value.slice a37 (d_1 ++ [33]).length c38)) rfl ?_)
   refine Rg_nil ?_
   refine Wp_region ?_
   refine Rg_op rfl (op_move (v := (Value.int .i64 i_1)) rfl ?_)
   refine Rg_op rfl (op_addw rfl rfl ?_)
   refine Rg_op rfl (op_assign (v := (Value.int .i64 (IntKind.wrap .i64 (i_1 + 1)))) rfl ?_)
   refine Rg_nil ?_
   exact hK17 _ _ ⟨(d_1 ++ [33]), (IntKind.wrap .i64 (i_1 + 1)), a37, c38, k39, o40, _, rfl, ⟨(by repeat (first | with_reducible exact Out.refl _ _ | refine Out.upd ?_ rfl | refine Out.updL ?_ rfl | refine Out.mix' ?_ rfl | exact Out.refl _ _)), rfl, rfl, rfl, trivial⟩, ch25, hs42, f41, (inK_wrap .i64 _), jnE2 hsf16 hm⟩
  ·
   replace hm := bif_f hm hc26
   refine Wp_exit ?_
   refine Wp_seq ?_
   refine Wp_region ?_
   refine Rg_op rfl (op_move (v := (Value.slice a_g12 d_1.length c_g12)) rfl ?_)
   refine Rg_op rfl (op_move (v := (Value.int .i64 to)) rfl ?_)
   replace hm := ck_some hm; obtain ⟨hc43, hm⟩ := hm
   refine Rg_op rfl (op_indexAddrG ty39 ty3 rfl rfl f_g12 hc43 ?_)
   rintro b44 rfl rfl
   refine Rg_op_ (op_storeG (vs := [(Value.int .i64 0)]) (i := 0) ty3 rfl hs21 rfl rfl rfl rfl f_g12 hc43 (mk_int (show InK .i64 0 from by decide)) ?_)
   intro w45 o48 p46 hs47 f49
   replace f_a_volumes := f_a_volumes.step p46; replace f_a_sectors := f_a_sectors.step p46; replace f_a_configs := f_a_configs.step p46; replace f_a_segments := f_a_segments.step p46; replace f_a_routes := f_a_routes.step p46; replace f_a_airports := f_a_airports.step p46; replace f_a_classes := f_a_classes.step p46; replace f_a_rules := f_a_rules.step p46; replace ch25 := ch25.trans p46; clear p46 hs21
   refine Rg_nil ?_
   refine Wp_seq ?_
   refine Wp_region ?_
   refine Rg_op rfl (op_move (v := (Value.int .i64 to)) rfl ?_)
   refine Rg_op rfl (op_buildSlice (cs := [(Value.int .i64 to)]) (parts := [(0, .tmp 24)]) ty39 ty3 hs47 (by decide) rfl ?_)
   intro b50 w51 hx54 p52 hs53
   replace f_a_volumes := f_a_volumes.step p52; replace f_a_sectors := f_a_sectors.step p52; replace f_a_configs := f_a_configs.step p52; replace f_a_segments := f_a_segments.step p52; replace f_a_routes := f_a_routes.step p52; replace f_a_airports := f_a_airports.step p52; replace f_a_classes := f_a_classes.step p52; replace f_a_rules := f_a_rules.step p52; replace f49 := f49.step p52; replace ch25 := ch25.trans p52; clear p52 hs47
   refine Rg_op rfl (op_assign (v := (Value.slice (some ⟨b50, 0, none⟩) 1 1)) rfl ?_)
   refine Rg_nil ?_
   refine Wp_seq ?_
   refine Wp_seq ?_
   refine Wp_region ?_
   refine Rg_op rfl (op_assign (v := (Value.int .i64 0)) rfl ?_)
   refine Rg_nil ?_
   refine Wp_block ?_
   have f63 := Gs.of_cells (p := (rInt .i64)) (e := 3) (bl := b50) (c := 1) (w := w51) (O := ks [(some b50, Obj.cells [(Value.int .i64 to)].toArray 3), (some b44, o48), (some b1, Obj.cells [(Value.slice a_a_volumes a.volumes.length c_a_volumes), (Value.slice a_a_sectors a.sectors.length c_a_sectors), (Value.slice a_a_configs a.configs.length c_a_configs), (Value.slice a_a_segments a.segments.length c_a_segments), (Value.slice a_a_routes a.routes.length c_a_routes), (Value.slice a_a_airports a.airports.length c_a_airports), (Value.slice a_a_classes a.classes.length c_a_classes), (Value.slice a_a_rules a.rules.length c_a_rules)].toArray 31)] O) (show Els (rInt .i64) _ _ [(Value.int .i64 to)] [to] from ⟨_, _, rfl, (mk_int r_to), Els.nil⟩) rfl (le_lit rfl)
   refine Wp_loopM [5, 7, 8, 9, 26, 27, 28, 29, 30, 31, 32, 33, 34, 35, 36, 37, 38, 39, 40, 41, 42, 43, 44, 45, 46, 47, 48, 49, 50, 51, 52, 53, 54, 55, 56, 57, 58, 59, 60, 61, 62, 63, 64, 65, 66, 67] (fun m fr w' => ∃ (d_2 : List Int) (queue_1 : List Int) (q_1 : Int) (a_g56 : Option Addr) (c_g56 : Nat) (k_g56 : Option Nat) (o_g56 : Obj) (a_g57 : Option Addr) (c_g57 : Nat) (k_g57 : Option Nat) (o_g57 : Obj) (Ebs : Ents), Ebs = [(k_g57, o_g57), (k_g56, o_g56), (some b1, Obj.cells [(Value.slice a_a_volumes a.volumes.length c_a_volumes), (Value.slice a_a_sectors a.sectors.length c_a_sectors), (Value.slice a_a_configs a.configs.length c_a_configs), (Value.slice a_a_segments a.segments.length c_a_segments), (Value.slice a_a_routes a.routes.length c_a_routes), (Value.slice a_a_airports a.airports.length c_a_airports), (Value.slice a_a_classes a.classes.length c_a_classes), (Value.slice a_a_rules a.rules.length c_a_rules)].toArray 31)] ∧ fr [] [(5, (Value.slice a_g56 d_2.length c_g56)), (7, (Value.slice a_g57 queue_1.length c_g57)), (8, (Value.int .i64 q_1))] ∧ Step (ks [(some b50, Obj.cells [(Value.int .i64 to)].toArray 3), (some b44, o48), (some b1, Obj.cells [(Value.slice a_a_volumes a.volumes.length c_a_volumes), (Value.slice a_a_sectors a.sectors.length c_a_sectors), (Value.slice a_a_configs a.configs.length c_a_configs), (Value.slice a_a_segments a.segments.length c_a_segments), (Value.slice a_a_routes a.routes.length c_a_routes), (Value.slice a_a_airports a.airports.length c_a_airports), (Value.slice a_a_classes a.classes.length c_a_classes), (Value.slice a_a_rules a.rules.length c_a_rules)].toArray 31)] O) w51 (ks Ebs O) w' ∧ St ⟨w, [], []⟩ O w' Ebs ∧ Gs (rInt .i64) 3 w' (ks Ebs O) a_g56 c_g56 d_2 k_g56 o_g56 ∧ Gs (rInt .i64) 3 w' (ks Ebs O) a_g57 c_g57 queue_1 k_g57 o_g57 ∧ InK .i64 q_1 ∧ loop3 (m35_overflightref10_distances_B1 a) m d_2 queue_1 q_1 = some x) (1000000) ⟨(d_1.set to.toNat 0), [to], 0, (some ⟨b44, 0, none⟩), c_g12, (some b44), o48, (some ⟨b50, 0, none⟩), 1, (some b50), (Obj.cells [(Value.int .i64 to)].toArray 3), _, rfl, ⟨Out.refl _ _, rfl, (eqlenV (show d_1.length = (d_1.set to.toNat 0).length from by first | (simp; done) | (simp; omega))), rfl, rfl, trivial⟩, Step.refl _ _, hs53, f49, f63, (show InK .i64 0 from by decide), hm⟩ ?_ ?_
   · rintro _ _ ⟨_, _, _, _, _, _, _, _, _, _, _, _, _, _, _, _, _, _, _, hm⟩; exact loop3_z hm
   ·
    rintro m62 K61 hK61 ρ68 w64 ⟨d_2, queue_1, q_1, a_g56, c_g56, k_g56, o_g56, a_g57, c_g57, k_g57, o_g57, Ebs, hEbs, hfr67, hst66, hs65, f_g56, f_g57, r_y58, hm⟩
    obtain ⟨sf59, hsf60, hm⟩ := loop3_s hm; unfold m35_overflightref10_distances_B1 at hm
    subst hEbs; rw [hfr67.eq]; clear hfr67
    replace f_a_volumes := f_a_volumes.step hst66; replace f_a_sectors := f_a_sectors.step hst66; replace f_a_configs := f_a_configs.step hst66; replace f_a_segments := f_a_segments.step hst66; replace f_a_routes := f_a_routes.step hst66; replace f_a_airports := f_a_airports.step hst66; replace f_a_classes := f_a_classes.step hst66; replace f_a_rules := f_a_rules.step hst66; replace f49 := f49.step hst66; replace f63 := f63.step hst66; replace ch25 := ch25.trans hst66
    have ch69 := hst66
    refine Wp_seq ?_
    refine Wp_seq ?_
    clear f49 f63
    refine Wp_region ?_
    refine Rg_op rfl (op_move (v := (Value.int .i64 q_1)) rfl ?_)
    refine Rg_op rfl (op_move (v := (Value.slice a_g57 queue_1.length c_g57)) rfl ?_)
    refine Rg_op rfl (op_len Try.underlying39 rfl ?_)
    refine Rg_op rfl (op_lss rfl rfl ?_)
    refine Rg_nil ?_
    refine Wp_cond rfl (fun hc70 => ?_) (fun hc70 => ?_)
    ·
     replace hm := bif_t hm hc70
     refine Wp_skip ?_
     refine Wp_seq ?_
     refine Wp_block ?_
     refine Wp_seq ?_
     refine Wp_region ?_
     refine Rg_op rfl (op_assign (v := (Value.int .i64 0)) rfl ?_)
     refine Rg_nil ?_
     refine Wp_block ?_
     refine Wp_loopM [5, 7, 9, 32, 33, 34, 35, 36, 37, 38, 39, 40, 41, 42, 43, 44, 45, 46, 47, 48, 49, 50, 51, 52, 53, 54, 55, 56, 57, 58, 59, 60, 61, 62, 63, 64, 65, 66, 67] (fun m fr w' => ∃ (d_3 : List Int) (queue_2 : List Int) (i_2 : Int) (a_g71 : Option Addr) (c_g71 : Nat) (k_g71 : Option Nat) (o_g71 : Obj) (a_g72 : Option Addr) (c_g72 : Nat) (k_g72 : Option Nat) (o_g72 : Obj) (Ebs : Ents), Ebs = [(k_g72, o_g72), (k_g71, o_g71), (some b1, Obj.cells [(Value.slice a_a_volumes a.volumes.length c_a_volumes), (Value.slice a_a_sectors a.sectors.length c_a_sectors), (Value.slice a_a_configs a.configs.length c_a_configs), (Value.slice a_a_segments a.segments.length c_a_segments), (Value.slice a_a_routes a.routes.length c_a_routes), (Value.slice a_a_airports a.airports.length c_a_airports), (Value.slice a_a_classes a.classes.length c_a_classes), (Value.slice a_a_rules a.rules.length c_a_rules)].toArray 31)] ∧ fr [] [(5, (Value.slice a_g71 d_3.length c_g71)), (7, (Value.slice a_g72 queue_2.length c_g72)), (9, (Value.int .i64 i_2))] ∧ Step (ks [(k_g57, o_g57), (k_g56, o_g56), (some b1, Obj.cells [(Value.slice a_a_volumes a.volumes.length c_a_volumes), (Value.slice a_a_sectors a.sectors.length c_a_sectors), (Value.slice a_a_configs a.configs.length c_a_configs), (Value.slice a_a_segments a.segments.length c_a_segments), (Value.slice a_a_routes a.routes.length c_a_routes), (Value.slice a_a_airports a.airports.length c_a_airports), (Value.slice a_a_classes a.classes.length c_a_classes), (Value.slice a_a_rules a.rules.length c_a_rules)].toArray 31)] O) w64 (ks Ebs O) w' ∧ St ⟨w, [], []⟩ O w' Ebs ∧ Gs (rInt .i64) 3 w' (ks Ebs O) a_g71 c_g71 d_3 k_g71 o_g71 ∧ Gs (rInt .i64) 3 w' (ks Ebs O) a_g72 c_g72 queue_2 k_g72 o_g72 ∧ InK .i64 i_2 ∧ loop3 (m35_overflightref10_distances_B2 a q_1 sf59) m d_3 queue_2 i_2 = some x) (((a.configs.length : Int) - 0).toNat + 1) ⟨d_2, queue_1, 0, a_g56, c_g56, k_g56, o_g56, a_g57, c_g57, k_g57, o_g57, _, rfl, ⟨Out.refl _ _, rfl, rfl, rfl, rfl, trivial⟩, Step.refl _ _, hs65, f_g56, f_g57, (show InK .i64 0 from by decide), hm⟩ ?_ ?_
     · rintro _ _ ⟨_, _, _, _, _, _, _, _, _, _, _, _, _, _, _, _, _, _, _, hm⟩; exact loop3_z hm
     ·
      rintro m77 K76 hK76 ρ82 w78 ⟨d_3, queue_2, i_2, a_g71, c_g71, k_g71, o_g71, a_g72, c_g72, k_g72, o_g72, Ebs, hEbs, hfr81, hst80, hs79, f_g71, f_g72, r_y73, hm⟩
      obtain ⟨sf74, hsf75, hm⟩ := loop3_s hm; unfold m35_overflightref10_distances_B2 at hm
      subst hEbs; rw [hfr81.eq]; clear hfr81
      replace f_a_volumes := f_a_volumes.step hst80; replace f_a_sectors := f_a_sectors.step hst80; replace f_a_configs := f_a_configs.step hst80; replace f_a_segments := f_a_segments.step hst80; replace f_a_routes := f_a_routes.step hst80; replace f_a_airports := f_a_airports.step hst80; replace f_a_classes := f_a_classes.step hst80; replace f_a_rules := f_a_rules.step hst80; replace f_g56 := f_g56.step hst80; replace f_g57 := f_g57.step hst80; replace ch25 := ch25.trans hst80; replace ch69 := ch69.trans hst80
      have ch83 := hst80
      refine Wp_seq ?_
      refine Wp_seq ?_
      clear f_g56 f_g57
      refine Wp_region ?_
      refine Rg_op rfl (op_move (v := (Value.int .i64 i_2)) rfl ?_)
      refine Rg_op rfl (op_fieldAddr ty31 rfl ty24 (by decide) rfl (rfl : _ = (⟨_, 2, none⟩ : Addr)) ?_)
      refine Rg_op rfl (op_load (cs := [(Value.slice a_a_volumes a.volumes.length c_a_volumes), (Value.slice a_a_sectors a.sectors.length c_a_sectors), (Value.slice a_a_configs a.configs.length c_a_configs), (Value.slice a_a_segments a.segments.length c_a_segments), (Value.slice a_a_routes a.routes.length c_a_routes), (Value.slice a_a_airports a.airports.length c_a_airports), (Value.slice a_a_classes a.classes.length c_a_classes), (Value.slice a_a_rules a.rules.length c_a_rules)]) (i := 2) ty24 hs79 rfl rfl rfl ?_)
      refine Rg_op rfl (op_len Try.underlying24 rfl ?_)
      refine Rg_op rfl (op_lss rfl rfl ?_)
      refine Rg_nil ?_
      refine Wp_cond rfl (fun hc84 => ?_) (fun hc84 => ?_)
      ·
       replace hm := bif_t hm hc84
       refine Wp_skip ?_
       refine Wp_seq ?_
       refine Wp_block ?_
       replace hm := jn_elim hm; obtain ⟨k86, hk87, hm⟩ := hm
       refine Wp_seqJ [39, 40, 41, 42, 43, 44, 45, 46, 47, 48, 49, 50, 51, 52] (fun fr w' => ∃ (v_1 : Bool) (Ebs : Ents), Ebs = [(k_g72, o_g72), (k_g71, o_g71), (some b1, Obj.cells [(Value.slice a_a_volumes a.volumes.length c_a_volumes), (Value.slice a_a_sectors a.sectors.length c_a_sectors), (Value.slice a_a_configs a.configs.length c_a_configs), (Value.slice a_a_segments a.segments.length c_a_segments), (Value.slice a_a_routes a.routes.length c_a_routes), (Value.slice a_a_airports a.airports.length c_a_airports), (Value.slice a_a_classes a.classes.length c_a_classes), (Value.slice a_a_rules a.rules.length c_a_rules)].toArray 31)] ∧ fr [] [(52, (Value.bool v_1))] ∧ Step (ks [(k_g72, o_g72), (k_g71, o_g71), (some b1, Obj.cells [(Value.slice a_a_volumes a.volumes.length c_a_volumes), (Value.slice a_a_sectors a.sectors.length c_a_sectors), (Value.slice a_a_configs a.configs.length c_a_configs), (Value.slice a_a_segments a.segments.length c_a_segments), (Value.slice a_a_routes a.routes.length c_a_routes), (Value.slice a_a_airports a.airports.length c_a_airports), (Value.slice a_a_classes a.classes.length c_a_classes), (Value.slice a_a_rules a.rules.length c_a_rules)].toArray 31)] O) w78 (ks Ebs O) w' ∧ St ⟨w, [], []⟩ O w' Ebs ∧ k86 v_1 = some x) ?_ ?_
       ·
        rintro ρ93 w89 ⟨v_1, Ebs, hEbs, hfr92, hst91, hs90, hm⟩
        replace hm := jnE1 hk87 hm
        subst hEbs; rw [hfr92.eq]; clear hfr92
        replace f_a_volumes := f_a_volumes.step hst91; replace f_a_sectors := f_a_sectors.step hst91; replace f_a_configs := f_a_configs.step hst91; replace f_a_segments := f_a_segments.step hst91; replace f_a_routes := f_a_routes.step hst91; replace f_a_airports := f_a_airports.step hst91; replace f_a_classes := f_a_classes.step hst91; replace f_a_rules := f_a_rules.step hst91; replace f_g71 := f_g71.step hst91; replace f_g72 := f_g72.step hst91; replace ch25 := ch25.trans hst91; replace ch69 := ch69.trans hst91; replace ch83 := ch83.trans hst91; clear hst91 hs79
        refine Wp_cond rfl (fun hc94 => ?_) (fun hc94 => ?_)
        ·
         replace hm := bif_t hm hc94
         refine Wp_seq ?_
         refine Wp_region ?_
         refine Rg_op rfl (op_move (v := (Value.slice a_g71 d_3.length c_g71)) rfl ?_)
         refine Rg_op rfl (op_move (v := (Value.int .i64 i_2)) rfl ?_)
         refine Rg_op rfl (op_move (v := (Value.slice a_g71 d_3.length c_g71)) rfl ?_)
         refine Rg_op rfl (op_move (v := (Value.slice a_g72 queue_2.length c_g72)) rfl ?_)
         refine Rg_op rfl (op_move (v := (Value.int .i64 q_1)) rfl ?_)
         replace hm := ck_some hm; obtain ⟨hc95, hm⟩ := hm
         refine Rg_op rfl (op_indexAddrG ty39 ty3 rfl rfl f_g72 hc95 ?_)
         rintro b96 rfl rfl
         refine Rg_op rfl (op_loadG (i := 0) ty3 rfl hs90 rfl rfl f_g72 hc95 ?_)
         intro v97 h98
         obtain ⟨rfl, r_y99⟩ := un_int h98
         replace hm := ck_some hm; obtain ⟨hc100, hm⟩ := hm
         refine Rg_op rfl (op_indexAddrG ty39 ty3 rfl rfl f_g71 hc100 ?_)
         rintro b101 rfl rfl
         refine Rg_op rfl (op_loadG (i := 1) ty3 rfl hs90 rfl rfl f_g71 hc100 ?_)
         intro v102 h103
         obtain ⟨rfl, r_y104⟩ := un_int h103
         refine Rg_op rfl (op_addw rfl rfl ?_)
         replace hm := ck_some hm; obtain ⟨hc105, hm⟩ := hm
         refine Rg_op rfl (op_indexAddrG ty39 ty3 rfl rfl f_g71 hc105 ?_)
         rintro _ ⟨⟩ -
         refine Rg_op_ (op_storeG (vs := [(Value.int .i64 (IntKind.wrap .i64 ((d_3.getD (queue_2.getD q_1.toNat default).toNat default) + 1)))]) (i := 1) ty3 rfl hs90 rfl rfl rfl rfl f_g71 hc105 (mk_int (inK_wrap .i64 _)) ?_)
         intro w107 o110 p108 hs109 f111
         replace f_a_volumes := f_a_volumes.step p108; replace f_a_sectors := f_a_sectors.step p108; replace f_a_configs := f_a_configs.step p108; replace f_a_segments := f_a_segments.step p108; replace f_a_routes := f_a_routes.step p108; replace f_a_airports := f_a_airports.step p108; replace f_a_classes := f_a_classes.step p108; replace f_a_rules := f_a_rules.step p108; replace f_g72 := f_g72.step p108; replace ch25 := ch25.trans p108; replace ch69 := ch69.trans p108; replace ch83 := ch83.trans p108; clear p108 hs90
         refine Rg_nil ?_
         refine Wp_region ?_
         refine Rg_op rfl (op_move (v := (Value.slice (some ⟨b96, 0, none⟩) queue_2.length c_g72)) rfl ?_)
         refine Rg_op rfl (op_move (v := (Value.int .i64 i_2)) rfl ?_)
         refine Rg_op rfl (op_buildSlice (cs := [(Value.int .i64 i_2)]) (parts := [(0, .tmp 65)]) ty39 ty3 hs109 (by decide) rfl ?_)
         intro b112 w113 hx116 p114 hs115
         replace f_a_volumes := f_a_volumes.step p114; replace f_a_sectors := f_a_sectors.step p114; replace f_a_configs := f_a_configs.step p114; replace f_a_segments := f_a_segments.step p114; replace f_a_routes := f_a_routes.step p114; replace f_a_airports := f_a_airports.step p114; replace f_a_classes := f_a_classes.step p114; replace f_a_rules := f_a_rules.step p114; replace f_g72 := f_g72.step p114; replace f111 := f111.step p114; replace ch25 := ch25.trans p114; replace ch69 := ch69.trans p114; replace ch83 := ch83.trans p114; clear p114 hs109
         replace hm := ck_some hm; obtain ⟨hc118, hm⟩ := hm
         refine Rg_op rfl (op_append (q := (rInt .i64)) (i := 1) (xs := queue_2) (ys := [i_2]) (news := [(Value.int .i64 i_2)]) ty39 ty3 rfl (by decide) hs115 rfl rfl f_g72 rfl (Src.owned' (len := 1) (hs115.get (i := 0) rfl) rfl) (show Els (rInt .i64) _ _ [(Value.int .i64 i_2)] [i_2] from ⟨_, _, rfl, (mk_int r_y73), Els.nil⟩) hc118 (by have := hc118; simp only [maxLen]; omega) ?_)
         intro a122 c123 k124 o125 w119 p120 hs121 f126
         replace f_a_volumes := f_a_volumes.step p120; replace f_a_sectors := f_a_sectors.step p120; replace f_a_configs := f_a_configs.step p120; replace f_a_segments := f_a_segments.step p120; replace f_a_routes := f_a_routes.step p120; replace f_a_airports := f_a_airports.step p120; replace f_a_classes := f_a_classes.step p120; replace f_a_rules := f_a_rules.step p120; replace f111 := f111.step p120; replace ch25 := ch25.trans p120; replace ch69 := ch69.trans p120; replace ch83 := ch83.trans p120; clear p120 hs115
         have hs127 := hs121.drop 0
         replace f_a_volumes := f_a_volumes.step (hs121.dropS 0)
         replace f_a_sectors := f_a_sectors.step (hs121.dropS 0)
         replace f_a_configs := f_a_configs.step (hs121.dropS 0)
         replace f_a_segments := f_a_segments.step (hs121.dropS 0)
         replace f_a_routes := f_a_routes.step (hs121.dropS 0)
         replace f_a_airports := f_a_airports.step (hs121.dropS 0)
         replace f_a_classes := f_a_classes.step (hs121.dropS 0)
         replace f_a_rules := f_a_rules.step (hs121.dropS 0)
         replace f111 := f111.step (hs121.dropS 0)
         replace f126 := f126.step (hs121.dropS 0)
         replace ch25 := ch25.trans (hs121.dropS 0)
         replace ch69 := ch69.trans (hs121.dropS 0)
         replace ch83 := ch83.trans (hs121.dropS 0); clear hs121
         refine Rg_op rfl (op_assign (v := (Value.slice a122 (queue_2 ++ [i_2]).length c123)) rfl ?_)
         refine Rg_nil ?_
         refine Wp_region ?_
         refine Rg_op rfl (op_move (v := (Value.int .i64 i_2)) rfl ?_)
         refine Rg_op rfl (op_addw rfl rfl ?_)
         refine Rg_op rfl (op_assign (v := (Value.int .i64 (IntKind.wrap .i64 (i_2 + 1)))) rfl ?_)
         refine Rg_nil ?_
         exact hK76 _ _ ⟨(d_3.set i_2.toNat (IntKind.wrap .i64 ((d_3.getD (queue_2.getD q_1.toNat default).toNat default) + 1))), (queue_2 ++ [i_2]), (IntKind.wrap .i64 (i_2 + 1)), (some ⟨b101, 0, none⟩), c_g71, (some b101), o110, a122, c123, k124, o125, _, rfl, ⟨(by repeat (first | with_reducible exact Out.refl _ _ | refine Out.upd ?_ rfl | refine Out.updL ?_ rfl | refine Out.mix' ?_ rfl | exact Out.refl _ _)), rfl, (eqlenV (show d_3.length = (d_3.set i_2.toNat (IntKind.wrap .i64 ((d_3.getD (queue_2.getD q_1.toNat default).toNat default) + 1))).length from by first | (simp; done) | (simp; omega))), rfl, rfl, trivial⟩, ch83, hs127, f111, f126, (inK_wrap .i64 _), jnE3 hsf75 hm⟩
        ·
         replace hm := bif_f hm hc94
         refine Wp_skip ?_
         refine Wp_region ?_
         refine Rg_op rfl (op_move (v := (Value.int .i64 i_2)) rfl ?_)
         refine Rg_op rfl (op_addw rfl rfl ?_)
         refine Rg_op rfl (op_assign (v := (Value.int .i64 (IntKind.wrap .i64 (i_2 + 1)))) rfl ?_)
         refine Rg_nil ?_
         exact hK76 _ _ ⟨d_3, queue_2, (IntKind.wrap .i64 (i_2 + 1)), a_g71, c_g71, k_g71, o_g71, a_g72, c_g72, k_g72, o_g72, _, rfl, ⟨(by repeat (first | with_reducible exact Out.refl _ _ | refine Out.upd ?_ rfl | refine Out.updL ?_ rfl | refine Out.mix' ?_ rfl | exact Out.refl _ _)), rfl, rfl, rfl, rfl, trivial⟩, ch83, hs90, f_g71, f_g72, (inK_wrap .i64 _), jnE3 hsf75 hm⟩
       ·
        intro K88 hK88
        have ch128 := Step.refl (ks [(k_g72, o_g72), (k_g71, o_g71), (some b1, Obj.cells [(Value.slice a_a_volumes a.volumes.length c_a_volumes), (Value.slice a_a_sectors a.sectors.length c_a_sectors), (Value.slice a_a_configs a.configs.length c_a_configs), (Value.slice a_a_segments a.segments.length c_a_segments), (Value.slice a_a_routes a.routes.length c_a_routes), (Value.slice a_a_airports a.airports.length c_a_airports), (Value.slice a_a_classes a.classes.length c_a_classes), (Value.slice a_a_rules a.rules.length c_a_rules)].toArray 31)] O) w78
        refine Wp_drawR (g0 := []) (m := 12) (fl := []) (TS_inv hs79) (.inl rfl) rfl (by decide +kernel) ?_  -- 14
        refine Dw_eq (Value.slice a_g71 d_3.length c_g71) (fun ρ129 w130 g hle hi ht => ?_) ?_
        ·
         obtain ⟨-, hst, -⟩ := hle
         refine StepOp_plain (op_move (v := (Value.slice a_g71 d_3.length c_g71)) (ht 5 rfl) ?_)
         exact Goes.same hi rfl
        refine Dw_eq (Value.int .i64 i_2) (fun ρ132 w133 g hle hi ht => ?_) ?_
        ·
         obtain ⟨-, hst, -⟩ := hle
         refine StepOp_plain (op_move (v := (Value.int .i64 i_2)) (ht 9 rfl) ?_)
         exact Goes.same hi rfl
        replace hm := ck_some hm; obtain ⟨hc138, hm⟩ := hm
        obtain ⟨b139, rfl, rfl⟩ := f_g71.at_ (by omega)
        refine Dw_eq (Value.pointer (some ⟨b139, i_2.toNat * 1, none⟩)) (fun ρ135 w136 g hle hi ht => ?_) ?_
        ·
         obtain ⟨-, hst, -⟩ := hle
         replace f_g71 := f_g71.step hst
         refine StepOp_plain (op_indexAddrG ty39 ty3 (ht 39 rfl) (ht 40 rfl) f_g71 hc138 ?_)
         rintro _ ⟨⟩ -
         exact Goes.same hi rfl
        refine Dw_op (VD O [(k_g72, o_g72), (some b139, o_g71), (some b1, Obj.cells [(Value.slice a_a_volumes a.volumes.length c_a_volumes), (Value.slice a_a_sectors a.sectors.length c_a_sectors), (Value.slice a_a_configs a.configs.length c_a_configs), (Value.slice a_a_segments a.segments.length c_a_segments), (Value.slice a_a_routes a.routes.length c_a_routes), (Value.slice a_a_airports a.airports.length c_a_airports), (Value.slice a_a_classes a.classes.length c_a_classes), (Value.slice a_a_rules a.rules.length c_a_rules)].toArray 31)] (vI .i64) (d_3.getD i_2.toNat default)) (VD.stab _ _) (fun ρ140 w141 g hle hi ht => ?_) ?_
        ·
         obtain ⟨-, hst, -⟩ := hle
         replace f_g71 := f_g71.step hst
         have hsn := (Step.nx hi).1
         refine StepOp_plain (op_loadG (i := 1) ty3 rfl hsn rfl (ht 41 rfl) f_g71 hc138 ?_)
         intro v143 h144
         obtain ⟨rfl, r_y145⟩ := un_int h144
         exact Goes.same hi (show Vr.vd (vI .i64) _ _ _ _ from ⟨rfl, r_y145⟩)
        refine Dw_eq (Value.bool (decide ((d_3.getD i_2.toNat default) = 33))) (fun ρ146 w147 g hle hi ht => ?_) ?_
        ·
         obtain ⟨-, hst, -⟩ := hle
         have h149 : Vr.vd (vI .i64) _ _ _ _ := ht 42 rfl
         obtain ⟨q150, r_y151⟩ := h149
         refine StepOp_plain (op_eql q150 rfl ?_)
         exact Goes.same hi rfl
        refine Dw_opB (decide ((d_3.getD i_2.toNat default) = 33)) (fun ρ152 w153 g hle hi ht => ?_) (fun hg155 => ?_) (fun hg155 => ?_)
        ·
         obtain ⟨-, hst, -⟩ := hle
         refine StepOp_plain (op_move (v := (Value.bool (decide ((d_3.getD i_2.toNat default) = 33)))) (ht 43 rfl) ?_)
         exact Goes.same hi rfl
        ·
         replace hm := bif_t hm hg155
         refine Dw_eq (Value.agg [(Value.slice a_a_volumes a.volumes.length c_a_volumes), (Value.slice a_a_sectors a.sectors.length c_a_sectors), (Value.slice a_a_configs a.configs.length c_a_configs), (Value.slice a_a_segments a.segments.length c_a_segments), (Value.slice a_a_routes a.routes.length c_a_routes), (Value.slice a_a_airports a.airports.length c_a_airports), (Value.slice a_a_classes a.classes.length c_a_classes), (Value.slice a_a_rules a.rules.length c_a_rules)].toArray) (fun ρ156 w157 g hle hi ht => ?_) ?_
         ·
          obtain ⟨-, hst, -⟩ := hle
          have hsn := (Step.nx hi).1
          refine StepOp_g rfl (ht 44 rfl) (op_loadA (cs := [(Value.slice a_a_volumes a.volumes.length c_a_volumes), (Value.slice a_a_sectors a.sectors.length c_a_sectors), (Value.slice a_a_configs a.configs.length c_a_configs), (Value.slice a_a_segments a.segments.length c_a_segments), (Value.slice a_a_routes a.routes.length c_a_routes), (Value.slice a_a_airports a.airports.length c_a_airports), (Value.slice a_a_classes a.classes.length c_a_classes), (Value.slice a_a_rules a.rules.length c_a_rules)]) (vs := [(Value.slice a_a_volumes a.volumes.length c_a_volumes), (Value.slice a_a_sectors a.sectors.length c_a_sectors), (Value.slice a_a_configs a.configs.length c_a_configs), (Value.slice a_a_segments a.segments.length c_a_segments), (Value.slice a_a_routes a.routes.length c_a_routes), (Value.slice a_a_airports a.airports.length c_a_airports), (Value.slice a_a_classes a.classes.length c_a_classes), (Value.slice a_a_rules a.rules.length c_a_rules)]) (i := 2) ty31 hsn (ht 2 rfl) rfl rfl rfl ?_)
          exact Goes.same hi rfl
         refine Dw_eq (Value.int .i64 i_2) (fun ρ159 w160 g hle hi ht => ?_) ?_
         ·
          obtain ⟨-, hst, -⟩ := hle
          refine StepOp_g rfl (ht 44 rfl) (op_move (v := (Value.int .i64 i_2)) (ht 9 rfl) ?_)
          exact Goes.same hi rfl
         refine Dw_eq (Value.slice a_g72 queue_2.length c_g72) (fun ρ162 w163 g hle hi ht => ?_) ?_
         ·
          obtain ⟨-, hst, -⟩ := hle
          refine StepOp_g rfl (ht 44 rfl) (op_move (v := (Value.slice a_g72 queue_2.length c_g72)) (ht 7 rfl) ?_)
          exact Goes.same hi rfl
         refine Dw_eq (Value.int .i64 q_1) (fun ρ165 w166 g hle hi ht => ?_) ?_
         ·
          obtain ⟨-, hst, -⟩ := hle
          refine StepOp_g rfl (ht 44 rfl) (op_move (v := (Value.int .i64 q_1)) (ht 8 rfl) ?_)
          exact Goes.same hi rfl
         replace hm := ck_some hm; obtain ⟨hc171, hm⟩ := hm
         obtain ⟨b172, rfl, rfl⟩ := f_g72.at_ (by omega)
         refine Dw_eq (Value.pointer (some ⟨b172, q_1.toNat * 1, none⟩)) (fun ρ168 w169 g hle hi ht => ?_) ?_
         ·
          obtain ⟨-, hst, -⟩ := hle
          replace f_g72 := f_g72.step hst
          refine StepOp_g rfl (ht 44 rfl) (op_indexAddrG ty39 ty3 (ht 47 rfl) (ht 48 rfl) f_g72 hc171 ?_)
          rintro _ ⟨⟩ -
          exact Goes.same hi rfl
         refine Dw_op (VD O [(some b172, o_g72), (some b139, o_g71), (some b1, Obj.cells [(Value.slice a_a_volumes a.volumes.length c_a_volumes), (Value.slice a_a_sectors a.sectors.length c_a_sectors), (Value.slice a_a_configs a.configs.length c_a_configs), (Value.slice a_a_segments a.segments.length c_a_segments), (Value.slice a_a_routes a.routes.length c_a_routes), (Value.slice a_a_airports a.airports.length c_a_airports), (Value.slice a_a_classes a.classes.length c_a_classes), (Value.slice a_a_rules a.rules.length c_a_rules)].toArray 31)] (vI .i64) (queue_2.getD q_1.toNat default)) (VD.stab _ _) (fun ρ173 w174 g hle hi ht => ?_) ?_
         ·
          obtain ⟨-, hst, -⟩ := hle
          replace f_g72 := f_g72.step hst
          have hsn := (Step.nx hi).1
          refine StepOp_g rfl (ht 44 rfl) (op_loadG (i := 0) ty3 rfl hsn rfl (ht 49 rfl) f_g72 hc171 ?_)
          intro v176 h177
          obtain ⟨rfl, r_y178⟩ := un_int h177
          exact Goes.same hi (show Vr.vd (vI .i64) _ _ _ _ from ⟨rfl, r_y178⟩)
         refine Dw_nil fun w183 g184 hl185 hi186 => ?_
         obtain ⟨-, hst187, -⟩ := hl185
         obtain ⟨hs189, p188⟩ := Step.nx hi186
         rintro v190 h191
         replace h191 : Vr.vd (vI .i64) _ _ _ _ := h191
         obtain ⟨rfl, r_y192⟩ := h191
         rintro _ rfl
         rintro _ rfl
         rintro _ rfl
         rintro _ rfl
         rintro _ rfl
         rintro _ rfl
         rintro _ rfl
         rintro v193 h194
         replace h194 : Vr.vd (vI .i64) _ _ _ _ := h194
         obtain ⟨rfl, r_y195⟩ := h194
         rintro _ rfl
         rintro _ rfl
         rintro _ rfl
         have p196 : Step (ks [(some b172, o_g72), (some b139, o_g71), (some b1, Obj.cells [(Value.slice a_a_volumes a.volumes.length c_a_volumes), (Value.slice a_a_sectors a.sectors.length c_a_sectors), (Value.slice a_a_configs a.configs.length c_a_configs), (Value.slice a_a_segments a.segments.length c_a_segments), (Value.slice a_a_routes a.routes.length c_a_routes), (Value.slice a_a_airports a.airports.length c_a_airports), (Value.slice a_a_classes a.classes.length c_a_classes), (Value.slice a_a_rules a.rules.length c_a_rules)].toArray 31)] O) w78 (ks [(some b172, o_g72), (some b139, o_g71), (some b1, Obj.cells [(Value.slice a_a_volumes a.volumes.length c_a_volumes), (Value.slice a_a_sectors a.sectors.length c_a_sectors), (Value.slice a_a_configs a.configs.length c_a_configs), (Value.slice a_a_segments a.segments.length c_a_segments), (Value.slice a_a_routes a.routes.length c_a_routes), (Value.slice a_a_airports a.airports.length c_a_airports), (Value.slice a_a_classes a.classes.length c_a_classes), (Value.slice a_a_rules a.rules.length c_a_rules)].toArray 31)] O) w183 := hst187.trans p188
         replace f_a_volumes := f_a_volumes.step p196; replace f_a_sectors := f_a_sectors.step p196; replace f_a_configs := f_a_configs.step p196; replace f_a_segments := f_a_segments.step p196; replace f_a_routes := f_a_routes.step p196; replace f_a_airports := f_a_airports.step p196; replace f_a_classes := f_a_classes.step p196; replace f_a_rules := f_a_rules.step p196; replace f_g71 := f_g71.step p196; replace f_g72 := f_g72.step p196; replace ch25 := ch25.trans p196; replace ch69 := ch69.trans p196; replace ch83 := ch83.trans p196; replace ch128 := ch128.trans p196; clear p196 hs79
         replace hm := bd hm; obtain ⟨step_1, hv197, hm⟩ := hm
         refine Rg_opg rfl rfl rfl (op_call Try.call20 (c20_overflightref10_Step (a := a) (from_ := i_2) (to := (queue_2.getD q_1.toNat default)) hs189.ltw f_a_volumes f_a_sectors f_a_configs f_a_segments f_a_routes f_a_airports f_a_classes f_a_rules r_y73 r_y192 hv197) rfl ?_)
         rintro v198 w199 ⟨hx200, h201⟩
         have hs202 := hs189.call hx200
         have p203 := Step.ext (O := ks [(some b172, o_g72), (some b139, o_g71), (some b1, Obj.cells [(Value.slice a_a_volumes a.volumes.length c_a_volumes), (Value.slice a_a_sectors a.sectors.length c_a_sectors), (Value.slice a_a_configs a.configs.length c_a_configs), (Value.slice a_a_segments a.segments.length c_a_segments), (Value.slice a_a_routes a.routes.length c_a_routes), (Value.slice a_a_airports a.airports.length c_a_airports), (Value.slice a_a_classes a.classes.length c_a_classes), (Value.slice a_a_rules a.rules.length c_a_rules)].toArray 31)] O) hx200
         clear hx200
         replace f_a_volumes := f_a_volumes.step p203; replace f_a_sectors := f_a_sectors.step p203; replace f_a_configs := f_a_configs.step p203; replace f_a_segments := f_a_segments.step p203; replace f_a_routes := f_a_routes.step p203; replace f_a_airports := f_a_airports.step p203; replace f_a_classes := f_a_classes.step p203; replace f_a_rules := f_a_rules.step p203; replace f_g71 := f_g71.step p203; replace f_g72 := f_g72.step p203; replace ch25 := ch25.trans p203; replace ch69 := ch69.trans p203; replace ch83 := ch83.trans p203; replace ch128 := ch128.trans p203; clear p203 hs189
         obtain rfl := h201
         refine Rg_op rfl (op_pick_t (v := (Value.bool step_1)) rfl rfl ?_)
         refine Rg_nil ?_
         exact hK88 _ _ ⟨step_1, _, rfl, ⟨(by repeat (first | with_reducible exact Out.refl _ _ | refine Out.upd ?_ rfl | refine Out.updL ?_ rfl | refine Out.mix' ?_ rfl | exact Out.refl _ _)), rfl, rfl, trivial⟩, ch128, hs202, hm⟩
        ·
         replace hm := bif_f hm hg155
         refine Dw_skip (fun _ _ _ ht => wanted_x rfl (ht 44 rfl) rfl) ?_
         refine Dw_skip (fun _ _ _ ht => wanted_x rfl (ht 44 rfl) rfl) ?_
         refine Dw_skip (fun _ _ _ ht => wanted_x rfl (ht 44 rfl) rfl) ?_
         refine Dw_skip (fun _ _ _ ht => wanted_x rfl (ht 44 rfl) rfl) ?_
         refine Dw_skip (fun _ _ _ ht => wanted_x rfl (ht 44 rfl) rfl) ?_
         refine Dw_skip (fun _ _ _ ht => wanted_x rfl (ht 44 rfl) rfl) ?_
         refine Dw_nil fun w209 g210 hl211 hi212 => ?_
         obtain ⟨-, hst213, -⟩ := hl211
         obtain ⟨hs215, p214⟩ := Step.nx hi212
         rintro _ rfl
         rintro _ rfl
         rintro _ rfl
         rintro _ rfl
         rintro _ rfl
         rintro _ rfl
         rintro _ rfl
         rintro _ rfl
         rintro v216 h217
         replace h217 : Vr.vd (vI .i64) _ _ _ _ := h217
         obtain ⟨rfl, r_y218⟩ := h217
         rintro _ rfl
         rintro _ rfl
         rintro _ rfl
         have p219 : Step (ks [(k_g72, o_g72), (some b139, o_g71), (some b1, Obj.cells [(Value.slice a_a_volumes a.volumes.length c_a_volumes), (Value.slice a_a_sectors a.sectors.length c_a_sectors), (Value.slice a_a_configs a.configs.length c_a_configs), (Value.slice a_a_segments a.segments.length c_a_segments), (Value.slice a_a_routes a.routes.length c_a_routes), (Value.slice a_a_airports a.airports.length c_a_airports), (Value.slice a_a_classes a.classes.length c_a_classes), (Value.slice a_a_rules a.rules.length c_a_rules)].toArray 31)] O) w78 (ks [(k_g72, o_g72), (some b139, o_g71), (some b1, Obj.cells [(Value.slice a_a_volumes a.volumes.length c_a_volumes), (Value.slice a_a_sectors a.sectors.length c_a_sectors), (Value.slice a_a_configs a.configs.length c_a_configs), (Value.slice a_a_segments a.segments.length c_a_segments), (Value.slice a_a_routes a.routes.length c_a_routes), (Value.slice a_a_airports a.airports.length c_a_airports), (Value.slice a_a_classes a.classes.length c_a_classes), (Value.slice a_a_rules a.rules.length c_a_rules)].toArray 31)] O) w209 := hst213.trans p214
         replace f_a_volumes := f_a_volumes.step p219; replace f_a_sectors := f_a_sectors.step p219; replace f_a_configs := f_a_configs.step p219; replace f_a_segments := f_a_segments.step p219; replace f_a_routes := f_a_routes.step p219; replace f_a_airports := f_a_airports.step p219; replace f_a_classes := f_a_classes.step p219; replace f_a_rules := f_a_rules.step p219; replace f_g71 := f_g71.step p219; replace f_g72 := f_g72.step p219; replace ch25 := ch25.trans p219; replace ch69 := ch69.trans p219; replace ch83 := ch83.trans p219; replace ch128 := ch128.trans p219; clear p219 hs79
         refine Rg_opx rfl (asB_ne rfl rfl) rfl ?_
         refine Rg_op rfl (op_pick_f (v := (Value.bool false)) rfl rfl ?_)
         refine Rg_nil ?_
         exact hK88 _ _ ⟨false, _, rfl, ⟨(by repeat (first | with_reducible exact Out.refl _ _ | refine Out.upd ?_ rfl | refine Out.updL ?_ rfl | refine Out.mix' ?_ rfl | exact Out.refl _ _)), rfl, rfl, trivial⟩, ch128, hs215, hm⟩
      ·
       replace hm := bif_f hm hc84
       refine Wp_exit ?_
       refine Wp_region ?_
       refine Rg_op rfl (op_move (v := (Value.int .i64 q_1)) rfl ?_)
       refine Rg_op rfl (op_addw rfl rfl ?_)
       refine Rg_op rfl (op_assign (v := (Value.int .i64 (IntKind.wrap .i64 (q_1 + 1)))) rfl ?_)
       refine Rg_nil ?_
       exact hK61 _ _ ⟨d_3, queue_2, (IntKind.wrap .i64 (q_1 + 1)), a_g71, c_g71, k_g71, o_g71, a_g72, c_g72, k_g72, o_g72, _, rfl, ⟨(by repeat (first | with_reducible exact Out.refl _ _ | refine Out.upd ?_ rfl | refine Out.updL ?_ rfl | refine Out.mix' ?_ rfl | exact Out.refl _ _)), rfl, rfl, rfl, rfl, trivial⟩, ch69, hs79, f_g71, f_g72, (inK_wrap .i64 _), jnE3 hsf60 hm⟩
    ·
     replace hm := bif_f hm hc70
     refine Wp_exit ?_
     refine Wp_seq ?_
     obtain ⟨hs220, p221⟩ := hs65.sub (bs' := [(k_g56, o_g56)]) (.cons _ (.cons_cons _ (.cons _ List.Sublist.slnil)))
     clear f_a_volumes f_a_sectors f_a_configs f_a_segments f_a_routes f_a_airports f_a_classes f_a_rules f_g57
     replace f_g56 := f_g56.step p221; replace ch25 := ch25.trans p221; replace ch69 := ch69.trans p221; clear p221 hs65
     refine Wp_region ?_
     refine Rg_op rfl (op_move (v := (Value.slice a_g56 d_2.length c_g56)) rfl ?_)
     refine Rg_op rfl (op_assign (v := (Value.slice a_g56 d_2.length c_g56)) rfl ?_)
     refine Rg_nil ?_
     refine Wp_ret ?_
     refine ⟨_, (show Closes [] _ _ from rfl), [(Value.slice a_g56 d_2.length c_g56)], ⟨rfl, trivial⟩, hs220.ext, ?_⟩
     exact OkG.mk (i := 0) hs220 rfl f_g56 (Option.some.inj hm)
end Go.Fx



set_option linter.unusedVariables false
set_option linter.unusedSimpArgs false
set_option maxRecDepth 100000
set_option maxHeartbeats 0
namespace Go.Fx
open Go Go.RowKit Go.Proofs
def m23_overflightref10_Path_B1 (a : XAirspace) (distances_1 : (List Int)) (at_1 : Int) (k64 : Int → Option ((List Int) × Bool × Int)) (sf91 : Int → Option ((List Int) × Bool × Int)) (next_2 : Int) : Option ((List Int) × Bool × Int) :=
 jn (fun (v_2 : Bool) =>
  bif v_2 then
   sf91 (IntKind.wrap .i64 (next_2 + 1))
  else
   k64 next_2)
 (fun k103 =>
  ck ((0 : Int) ≤ next_2 ∧ next_2 < (distances_1.length : Int)) <|
  ck ((0 : Int) ≤ at_1 ∧ at_1 < (distances_1.length : Int)) <|
  bif (decide ((distances_1.getD next_2.toNat default) ≠ (IntKind.wrap .i64 ((distances_1.getD at_1.toNat default) - 1)))) then
   k103 true
  else
   (m20_overflightref10_Step a at_1 next_2).bind fun step_1 =>
   k103 (!step_1))

def m23_overflightref10_Path_B0 (a : XAirspace) (to : Int) (distances_1 : (List Int)) (sf50 : (List Int) → Int → Option ((List Int) × Bool × Int)) (out_1 : List Int) (at_1 : Int) : Option ((List Int) × Bool × Int) :=
 bif (decide (at_1 ≠ to)) then
  jn (fun (next_1 : Int) =>
   ck ((out_1.length + [next_1].length) * 8 ≤ 140737488355328) <|
   sf50 (out_1 ++ [next_1]) next_1)
  (fun k64 =>
   loop1 (m23_overflightref10_Path_B1 a distances_1 at_1 k64) (1000000) 0)
 else
  some (out_1, true, 0)

def m23_overflightref10_Path (a : XAirspace) (from_ : Int) (to : Int) : Option ((List Int) × Bool × Int) :=
 jn (fun (v_1 : Bool) =>
  bif v_1 then
   some (([] : List Int), false, 100)
  else
   (m35_overflightref10_distances a to).bind fun distances_1 =>
   ck ((0 : Int) ≤ from_ ∧ from_ < (distances_1.length : Int)) <|
   bif (decide ((distances_1.getD from_.toNat default) = 33)) then
    some (([] : List Int), false, 0)
   else
    loop2 (m23_overflightref10_Path_B0 a to distances_1) (1000000) [from_] from_)
 (fun k8 =>
  (m16_overflightref10_Check a).bind fun check_1 =>
  bif (decide (check_1 ≠ 0)) then
   k8 true
  else
   bif (decide (from_ < 0)) then
    k8 true
   else
    bif (decide ((a.configs.length : Int) ≤ from_)) then
     k8 true
    else
     bif (decide (to < 0)) then
      k8 true
     else
      k8 (decide ((a.configs.length : Int) ≤ to)))

theorem c23_overflightref10_Path {w : World} {O : List Nat} {a : XAirspace} {from_ : Int} {to : Int} {a_a_volumes : Option Addr} {c_a_volumes : Nat} {a_a_sectors : Option Addr} {c_a_sectors : Nat} {a_a_configs : Option Addr} {c_a_configs : Nat} {a_a_segments : Option Addr} {c_a_segments : Nat} {a_a_routes : Option Addr} {c_a_routes : Nat} {a_a_airports : Option Addr} {c_a_airports : Nat} {a_a_classes : Option Addr} {c_a_classes : Nat} {a_a_rules : Option Addr} {c_a_rules : Nat} (hO : ∀ k ∈ O, k < w.heap.size) (f_a_volumes : SlR rXVolume w O a_a_volumes c_a_volumes a.volumes) (f_a_sectors : SlR rXSector w O a_a_sectors c_a_sectors a.sectors) (f_a_configs : SlR rXConfig w O a_a_configs c_a_configs a.configs) (f_a_segments : SlR rXSegment w O a_a_segments c_a_segments a.segments) (f_a_routes : SlR rXRoute w O a_a_routes c_a_routes a.routes) (f_a_airports : SlR rXAirport w O a_a_airports c_a_airports a.airports) (f_a_classes : SlR rXClass w O a_a_classes c_a_classes a.classes) (f_a_rules : SlR rXRule w O a_a_rules c_a_rules a.rules) (r_from_ : InK .i64 from_) (r_to : InK .i64 to) {x : (List Int) × Bool × Int} (hm : m23_overflightref10_Path a from_ to = some x) :
  Ok Try.prog 23 [(Value.agg [(Value.slice a_a_volumes a.volumes.length c_a_volumes), (Value.slice a_a_sectors a.sectors.length c_a_sectors), (Value.slice a_a_configs a.configs.length c_a_configs), (Value.slice a_a_segments a.segments.length c_a_segments), (Value.slice a_a_routes a.routes.length c_a_routes), (Value.slice a_a_airports a.airports.length c_a_airports), (Value.slice a_a_classes a.classes.length c_a_classes), (Value.slice a_a_rules a.rules.length c_a_rules)].toArray), (Value.int .i64 from_), (Value.int .i64 to)] w O (vT3 (vC (rSl (rInt .i64))) vB (vI .i64)) x := by
 unfold m23_overflightref10_Path at hm
 refine Fn_of_Wp (n := 77) (xs := [.tmp 6, .tmp 7, .tmp 8]) Try.func23 rfl Try.ntmps23 Try.results23 rfl ?_
 have hs := St.start hO
 refine Wp_seq ?_
 refine Wp_region ?_
 refine Rg_op rfl (op_box (cs := [(Value.slice a_a_volumes a.volumes.length c_a_volumes), (Value.slice a_a_sectors a.sectors.length c_a_sectors), (Value.slice a_a_configs a.configs.length c_a_configs), (Value.slice a_a_segments a.segments.length c_a_segments), (Value.slice a_a_routes a.routes.length c_a_routes), (Value.slice a_a_airports a.airports.length c_a_airports), (Value.slice a_a_classes a.classes.length c_a_classes), (Value.slice a_a_rules a.rules.length c_a_rules)]) hs rfl rfl ?_)
 intro b1 w2 _ p3 hs4
 replace f_a_volumes := f_a_volumes.step p3; replace f_a_sectors := f_a_sectors.step p3; replace f_a_configs := f_a_configs.step p3; replace f_a_segments := f_a_segments.step p3; replace f_a_routes := f_a_routes.step p3; replace f_a_airports := f_a_airports.step p3; replace f_a_classes := f_a_classes.step p3; replace f_a_rules := f_a_rules.step p3; clear p3
 refine Rg_op rfl (op_assign (v := (Value.slice none 0 0)) rfl ?_)
 refine Rg_op rfl (op_assign (v := (Value.bool false)) rfl ?_)
 refine Rg_op rfl (op_assign (v := (Value.int .i64 0)) rfl ?_)
 refine Rg_nil ?_
 refine Wp_seq ?_
 refine Wp_reset [] [(1, (Value.int .i64 from_)), (2, (Value.int .i64 to)), (3, (Value.pointer (some ⟨b1, 0, none⟩)))] rfl ⟨rfl, rfl, rfl, trivial⟩ fun ξ6 => ?_
 replace hm := jn_elim hm; obtain ⟨k8, hk9, hm⟩ := hm
 refine Wp_seqJ [13, 14, 15, 16, 17, 18, 19, 20, 21, 22, 23, 24, 25, 26, 27, 28, 29, 30, 31, 32, 33, 34, 35, 36, 37] (fun fr w' => ∃ (v_1 : Bool) (Ebs : Ents), Ebs = [(some b1, Obj.cells [(Value.slice a_a_volumes a.volumes.length c_a_volumes), (Value.slice a_a_sectors a.sectors.length c_a_sectors), (Value.slice a_a_configs a.configs.length c_a_configs), (Value.slice a_a_segments a.segments.length c_a_segments), (Value.slice a_a_routes a.routes.length c_a_routes), (Value.slice a_a_airports a.airports.length c_a_airports), (Value.slice a_a_classes a.classes.length c_a_classes), (Value.slice a_a_rules a.rules.length c_a_rules)].toArray 31)] ∧ fr [] [(37, (Value.bool v_1))] ∧ Step (ks [(some b1, Obj.cells [(Value.slice a_a_volumes a.volumes.length c_a_volumes), (Value.slice a_a_sectors a.sectors.length c_a_sectors), (Value.slice a_a_configs a.configs.length c_a_configs), (Value.slice a_a_segments a.segments.length c_a_segments), (Value.slice a_a_routes a.routes.length c_a_routes), (Value.slice a_a_airports a.airports.length c_a_airports), (Value.slice a_a_classes a.classes.length c_a_classes), (Value.slice a_a_rules a.rules.length c_a_rules)].toArray 31)] O) w2 (ks Ebs O) w' ∧ St ⟨w, [], []⟩ O w' Ebs ∧ k8 v_1 = some x) ?_ ?_
 ·
  rintro ρ15 w11 ⟨v_1, Ebs, hEbs, hfr14, hst13, hs12, hm⟩
  replace hm := jnE1 hk9 hm
  subst hEbs; rw [hfr14.eq]; clear hfr14
  replace f_a_volumes := f_a_volumes.step hst13; replace f_a_sectors := f_a_sectors.step hst13; replace f_a_configs := f_a_configs.step hst13; replace f_a_segments := f_a_segments.step hst13; replace f_a_routes := f_a_routes.step hst13; replace f_a_airports := f_a_airports.step hst13; replace f_a_classes := f_a_classes.step hst13; replace f_a_rules := f_a_rules.step hst13; clear hst13 hs4
  refine Wp_cond rfl (fun hc16 => ?_) (fun hc16 => ?_)
  ·
   replace hm := bif_t hm hc16
   refine Wp_seq ?_
   obtain ⟨hs17, p18⟩ := hs12.sub (bs' := []) (.cons _ List.Sublist.slnil)
   clear f_a_volumes f_a_sectors f_a_configs f_a_segments f_a_routes f_a_airports f_a_classes f_a_rules
   clear p18 hs12
   refine Wp_region ?_
   refine Rg_op rfl (op_assign (v := (Value.slice none 0 0)) rfl ?_)
   refine Rg_op rfl (op_assign (v := (Value.bool false)) rfl ?_)
   refine Rg_op rfl (op_assign (v := (Value.int .i64 100)) rfl ?_)
   refine Rg_nil ?_
   refine Wp_ret ?_
   have hz := step_all hs17
   refine ⟨_, (show Closes [] _ _ from rfl), [(Value.slice none 0 0), (Value.bool false), (Value.int .i64 100)], ⟨rfl, rfl, rfl, trivial⟩, hs17.ext, ?_⟩
   exact Vr.eq (a := (vT3 (vC (rSl (rInt .i64))) vB (vI .i64))) (x := (([] : List Int), false, 100)) (mkT3 (mkC (mk_sl SlR.nil_)) rfl ⟨rfl, (show InK .i64 100 from by decide)⟩) (Option.some.inj hm)
  ·
   replace hm := bif_f hm hc16
   refine Wp_skip ?_
   refine Wp_seq ?_
   refine Wp_region ?_
   refine Rg_op rfl (op_loadA (cs := [(Value.slice a_a_volumes a.volumes.length c_a_volumes), (Value.slice a_a_sectors a.sectors.length c_a_sectors), (Value.slice a_a_configs a.configs.length c_a_configs), (Value.slice a_a_segments a.segments.length c_a_segments), (Value.slice a_a_routes a.routes.length c_a_routes), (Value.slice a_a_airports a.airports.length c_a_airports), (Value.slice a_a_classes a.classes.length c_a_classes), (Value.slice a_a_rules a.rules.length c_a_rules)]) (vs := [(Value.slice a_a_volumes a.volumes.length c_a_volumes), (Value.slice a_a_sectors a.sectors.length c_a_sectors), (Value.slice a_a_configs a.configs.length c_a_configs), (Value.slice a_a_segments a.segments.length c_a_segments), (Value.slice a_a_routes a.routes.length c_a_routes), (Value.slice a_a_airports a.airports.length c_a_airports), (Value.slice a_a_classes a.classes.length c_a_classes), (Value.slice a_a_rules a.rules.length c_a_rules)]) (i := 0) ty31 hs12 rfl rfl rfl rfl ?_)
   refine Rg_op rfl (op_move (v := (Value.int .i64 to)) rfl ?_)
   replace hm := bd hm; obtain ⟨distances_1, hv19, hm⟩ := hm
   refine Rg_op rfl (op_call Try.call35 (g35_overflightref10_distances (a := a) (to := to) hs12.ltw f_a_volumes f_a_sectors f_a_configs f_a_segments f_a_routes f_a_airports f_a_classes f_a_rules r_to hv19) rfl ?_)
   rintro _ w21 ⟨hx22, a25, c26, k27, o28, rfl, hk29, f30⟩
   obtain ⟨hs24, p31⟩ := hs12.callG (o := o28) hx22 hk29
   rw [← ks_cons (o := o28)] at f30
   replace f_a_volumes := f_a_volumes.step p31; replace f_a_sectors := f_a_sectors.step p31; replace f_a_configs := f_a_configs.step p31; replace f_a_segments := f_a_segments.step p31; replace f_a_routes := f_a_routes.step p31; replace f_a_airports := f_a_airports.step p31; replace f_a_classes := f_a_classes.step p31; replace f_a_rules := f_a_rules.step p31; clear p31 hs12
   refine Rg_op rfl (op_assign (v := (Value.slice a25 distances_1.length c26)) rfl ?_)
   refine Rg_nil ?_
   refine Wp_seq ?_
   refine Wp_seq ?_
   refine Wp_region ?_
   refine Rg_op rfl (op_move (v := (Value.slice a25 distances_1.length c26)) rfl ?_)
   refine Rg_op rfl (op_move (v := (Value.int .i64 from_)) rfl ?_)
   replace hm := ck_some hm; obtain ⟨hc33, hm⟩ := hm
   refine Rg_op rfl (op_indexAddrG ty39 ty3 rfl rfl f30 hc33 ?_)
   rintro b34 rfl rfl
   refine Rg_op rfl (op_loadG (i := 0) ty3 rfl hs24 rfl rfl f30 hc33 ?_)
   intro v35 h36
   obtain ⟨rfl, r_y37⟩ := un_int h36
   refine Rg_op rfl (op_eql rfl rfl ?_)
   refine Rg_nil ?_
   refine Wp_cond rfl (fun hc38 => ?_) (fun hc38 => ?_)
   ·
    replace hm := bif_t hm hc38
    refine Wp_seq ?_
    obtain ⟨hs39, p40⟩ := hs24.sub (bs' := []) (.cons _ (.cons _ List.Sublist.slnil))
    clear f_a_volumes f_a_sectors f_a_configs f_a_segments f_a_routes f_a_airports f_a_classes f_a_rules f30
    clear p40 hs24
    refine Wp_region ?_
    refine Rg_op rfl (op_assign (v := (Value.slice none 0 0)) rfl ?_)
    refine Rg_op rfl (op_assign (v := (Value.bool false)) rfl ?_)
    refine Rg_op rfl (op_assign (v := (Value.int .i64 0)) rfl ?_)
    refine Rg_nil ?_
    refine Wp_ret ?_
    have hz := step_all hs39
    refine ⟨_, (show Closes [] _ _ from rfl), [(Value.slice none 0 0), (Value.bool false), (Value.int .i64 0)], ⟨rfl, rfl, rfl, trivial⟩, hs39.ext, ?_⟩
    exact Vr.eq (a := (vT3 (vC (rSl (rInt .i64))) vB (vI .i64))) (x := (([] : List Int), false, 0)) (mkT3 (mkC (mk_sl SlR.nil_)) rfl ⟨rfl, (show InK .i64 0 from by decide)⟩) (Option.some.inj hm)
   ·
    replace hm := bif_f hm hc38
    refine Wp_skip ?_
    refine Wp_seq ?_
    refine Wp_region ?_
    refine Rg_op rfl (op_move (v := (Value.int .i64 from_)) rfl ?_)
    refine Rg_op rfl (op_buildSlice (cs := [(Value.int .i64 from_)]) (parts := [(0, .tmp 46)]) ty39 ty3 hs24 (by decide) rfl ?_)
    intro b41 w42 hx45 p43 hs44
    replace f_a_volumes := f_a_volumes.step p43; replace f_a_sectors := f_a_sectors.step p43; replace f_a_configs := f_a_configs.step p43; replace f_a_segments := f_a_segments.step p43; replace f_a_routes := f_a_routes.step p43; replace f_a_airports := f_a_airports.step p43; replace f_a_classes := f_a_classes.step p43; replace f_a_rules := f_a_rules.step p43; replace f30 := f30.step p43; clear p43 hs24
    refine Rg_op rfl (op_assign (v := (Value.slice (some ⟨b41, 0, none⟩) 1 1)) rfl ?_)
    refine Rg_nil ?_
    refine Wp_seq ?_
    refine Wp_region ?_
    refine Rg_op rfl (op_move (v := (Value.int .i64 from_)) rfl ?_)
    refine Rg_op rfl (op_assign (v := (Value.int .i64 from_)) rfl ?_)
    refine Rg_nil ?_
    refine Wp_seq ?_
    refine Wp_block ?_
    refine Wp_reset [] [(2, (Value.int .i64 to)), (3, (Value.pointer (some ⟨b1, 0, none⟩))), (9, (Value.slice (some ⟨b34, 0, none⟩) distances_1.length c26)), (10, (Value.slice (some ⟨b41, 0, none⟩) 1 1)), (11, (Value.int .i64 from_))] rfl ⟨rfl, rfl, rfl, rfl, rfl, trivial⟩ fun ξ49 => ?_
    have f54 := Gs.of_cells (p := (rInt .i64)) (e := 3) (bl := b41) (c := 1) (w := w42) (O := ks [(some b41, Obj.cells [(Value.int .i64 from_)].toArray 3), (some b34, o28), (some b1, Obj.cells [(Value.slice a_a_volumes a.volumes.length c_a_volumes), (Value.slice a_a_sectors a.sectors.length c_a_sectors), (Value.slice a_a_configs a.configs.length c_a_configs), (Value.slice a_a_segments a.segments.length c_a_segments), (Value.slice a_a_routes a.routes.length c_a_routes), (Value.slice a_a_airports a.airports.length c_a_airports), (Value.slice a_a_classes a.classes.length c_a_classes), (Value.slice a_a_rules a.rules.length c_a_rules)].toArray 31)] O) (show Els (rInt .i64) _ _ [(Value.int .i64 from_)] [from_] from ⟨_, _, rfl, (mk_int r_from_), Els.nil⟩) rfl (le_lit rfl)
    refine Wp_loopM [10, 11, 12, 49, 50, 51, 52, 53, 54, 55, 56, 57, 58, 59, 60, 61, 62, 63, 64, 65, 66, 67, 68, 69, 70, 71, 72, 73, 74, 75] (fun m fr w' => ∃ (out_1 : List Int) (at_1 : Int) (a_g47 : Option Addr) (c_g47 : Nat) (k_g47 : Option Nat) (o_g47 : Obj) (Ebs : Ents), Ebs = [(k_g47, o_g47), (some b34, o28), (some b1, Obj.cells [(Value.slice a_a_volumes a.volumes.length c_a_volumes), (Value.slice a_a_sectors a.sectors.length c_a_sectors), (Value.slice a_a_configs a.configs.length c_a_configs), (Value.slice a_a_segments a.segments.length c_a_segments), (Value.slice a_a_routes a.routes.length c_a_routes), (Value.slice a_a_airports a.airports.length c_a_airports), (Value.slice a_a_classes a.classes.length c_a_classes), (Value.slice a_a_rules a.rules.length c_a_rules)].toArray 31)] ∧ fr [] [(10, (Value.slice a_g47 out_1.length c_g47)), (11, (Value.int .i64 at_1))] ∧ Step (ks [(some b41, Obj.cells [(Value.int .i64 from_)].toArray 3), (some b34, o28), (some b1, Obj.cells [(Value.slice a_a_volumes a.volumes.length c_a_volumes), (Value.slice a_a_sectors a.sectors.length c_a_sectors), (Value.slice a_a_configs a.configs.length c_a_configs), (Value.slice a_a_segments a.segments.length c_a_segments), (Value.slice a_a_routes a.routes.length c_a_routes), (Value.slice a_a_airports a.airports.length c_a_airports), (Value.slice a_a_classes a.classes.length c_a_classes), (Value.slice a_a_rules a.rules.length c_a_rules)].toArray 31)] O) w42 (ks Ebs O) w' ∧ St ⟨w, [], []⟩ O w' Ebs ∧ Gs (rInt .i64) 3 w' (ks Ebs O) a_g47 c_g47 out_1 k_g47 o_g47 ∧ InK .i64 at_1 ∧ loop2 (m23_overflightref10_Path_B0 a to distances_1) m out_1 at_1 = some x) (1000000) ⟨[from_], from_, (some ⟨b41, 0, none⟩), 1, (some b41), (Obj.cells [(Value.int .i64 from_)].toArray 3), _, rfl, ⟨Out.refl _ _, rfl, rfl, rfl, trivial⟩, Step.refl _ _, hs44, f54, r_from_, hm⟩ ?_ ?_
    · rintro _ _ ⟨_, _, _, _, _, _, _, _, _, _, _, _, _, hm⟩; exact loop2_z hm
    ·
     rintro m53 K52 hK52 ρ59 w55 ⟨out_1, at_1, a_g47, c_g47, k_g47, o_g47, Ebs, hEbs, hfr58, hst57, hs56, f_g47, r_y48, hm⟩
     obtain ⟨sf50, hsf51, hm⟩ := loop2_s hm; unfold m23_overflightref10_Path_B0 at hm
     subst hEbs; rw [hfr58.eq]; clear hfr58
     replace f_a_volumes := f_a_volumes.step hst57; replace f_a_sectors := f_a_sectors.step hst57; replace f_a_configs := f_a_configs.step hst57; replace f_a_segments := f_a_segments.step hst57; replace f_a_routes := f_a_routes.step hst57; replace f_a_airports := f_a_airports.step hst57; replace f_a_classes := f_a_classes.step hst57; replace f_a_rules := f_a_rules.step hst57; replace f30 := f30.step hst57; replace f54 := f54.step hst57
     have ch60 := hst57
     refine Wp_seq ?_
     refine Wp_seq ?_
     clear f54
     refine Wp_region ?_
     refine Rg_op rfl (op_move (v := (Value.int .i64 at_1)) rfl ?_)
     refine Rg_op rfl (op_move (v := (Value.int .i64 to)) rfl ?_)
     refine Rg_op rfl (op_neq rfl rfl ?_)
     refine Rg_nil ?_
     refine Wp_cond rfl (fun hc61 => ?_) (fun hc61 => ?_)
     ·
      replace hm := bif_t hm hc61
      refine Wp_skip ?_
      refine Wp_block ?_
      refine Wp_seq ?_
      refine Wp_region ?_
      refine Rg_op rfl (op_assign (v := (Value.int .i64 0)) rfl ?_)
      refine Rg_nil ?_
      refine Wp_reset2 [10, 11, 12, 49, 50, 51, 52, 53, 54, 55, 56, 57, 58, 59, 60, 61, 62, 63, 64, 65, 66, 67, 68, 69, 70, 71, 72, 73, 74, 75] [] (updL ⟨ξ49, []⟩ [(2, (Value.int .i64 to)), (3, (Value.pointer (some ⟨b1, 0, none⟩))), (9, (Value.slice (some ⟨b34, 0, none⟩) distances_1.length c26)), (10, (Value.slice (some ⟨b41, 0, none⟩) 1 1)), (11, (Value.int .i64 from_))]) [(10, (Value.slice a_g47 out_1.length c_g47)), (11, (Value.int .i64 at_1)), (12, (Value.int .i64 0))] (by repeat (first | with_reducible exact Out.refl _ _ | refine Out.upd ?_ rfl | refine Out.updL ?_ rfl | refine Out.mix' ?_ rfl | exact Out.refl _ _)) rfl ⟨rfl, rfl, rfl, trivial⟩ fun ξ62 => ?_
      replace hm := jn_elim hm; obtain ⟨k64, hk65, hm⟩ := hm
      refine Wp_seqJ [12, 52, 53, 54, 55, 56, 57, 58, 59, 60, 61, 62, 63, 64, 65, 66, 67, 68, 69, 70] (fun fr w' => ∃ (next_1 : Int) (Ebs : Ents), Ebs = [(k_g47, o_g47), (some b34, o28), (some b1, Obj.cells [(Value.slice a_a_volumes a.volumes.length c_a_volumes), (Value.slice a_a_sectors a.sectors.length c_a_sectors), (Value.slice a_a_configs a.configs.length c_a_configs), (Value.slice a_a_segments a.segments.length c_a_segments), (Value.slice a_a_routes a.routes.length c_a_routes), (Value.slice a_a_airports a.airports.length c_a_airports), (Value.slice a_a_classes a.classes.length c_a_classes), (Value.slice a_a_rules a.rules.length c_a_rules)].toArray 31)] ∧ fr [] [(12, (Value.int .i64 next_1))] ∧ Step (ks [(k_g47, o_g47), (some b34, o28), (some b1, Obj.cells [(Value.slice a_a_volumes a.volumes.length c_a_volumes), (Value.slice a_a_sectors a.sectors.length c_a_sectors), (Value.slice a_a_configs a.configs.length c_a_configs), (Value.slice a_a_segments a.segments.length c_a_segments), (Value.slice a_a_routes a.routes.length c_a_routes), (Value.slice a_a_airports a.airports.length c_a_airports), (Value.slice a_a_classes a.classes.length c_a_classes), (Value.slice a_a_rules a.rules.length c_a_rules)].toArray 31)] O) w55 (ks Ebs O) w' ∧ St ⟨w, [], []⟩ O w' Ebs ∧ InK .i64 next_1 ∧ k64 next_1 = some x) ?_ ?_
      ·
       rintro ρ71 w67 ⟨next_1, Ebs, hEbs, hfr70, hst69, hs68, r_y63, hm⟩
       replace hm := jnE1 hk65 hm
       subst hEbs; rw [hfr70.eq]; clear hfr70
       replace f_a_volumes := f_a_volumes.step hst69; replace f_a_sectors := f_a_sectors.step hst69; replace f_a_configs := f_a_configs.step hst69; replace f_a_segments := f_a_segments.step hst69; replace f_a_routes := f_a_routes.step hst69; replace f_a_airports := f_a_airports.step hst69; replace f_a_classes := f_a_classes.step hst69; replace f_a_rules := f_a_rules.step hst69; replace f30 := f30.step hst69; replace f_g47 := f_g47.step hst69; replace ch60 := ch60.trans hst69; clear hst69 hs56
       refine Wp_seq ?_
       refine Wp_region ?_
       refine Rg_op rfl (op_move (v := (Value.int .i64 next_1)) rfl ?_)
       refine Rg_op rfl (op_assign (v := (Value.int .i64 next_1)) rfl ?_)
       refine Rg_nil ?_
       refine Wp_region ?_
       refine Rg_op rfl (op_move (v := (Value.slice a_g47 out_1.length c_g47)) rfl ?_)
       refine Rg_op rfl (op_move (v := (Value.int .i64 next_1)) rfl ?_)
       refine Rg_op rfl (op_buildSlice (cs := [(Value.int .i64 next_1)]) (parts := [(0, .tmp 73)]) ty39 ty3 hs68 (by decide) rfl ?_)
       intro b72 w73 hx76 p74 hs75
       replace f_a_volumes := f_a_volumes.step p74; replace f_a_sectors := f_a_sectors.step p74; replace f_a_configs := f_a_configs.step p74; replace f_a_segments := f_a_segments.step p74; replace f_a_routes := f_a_routes.step p74; replace f_a_airports := f_a_airports.step p74; replace f_a_classes := f_a_classes.step p74; replace f_a_rules := f_a_rules.step p74; replace f30 := f30.step p74; replace f_g47 := f_g47.step p74; replace ch60 := ch60.trans p74; clear p74 hs68
       replace hm := ck_some hm; obtain ⟨hc78, hm⟩ := hm
       refine Rg_op rfl (op_append (q := (rInt .i64)) (i := 1) (xs := out_1) (ys := [next_1]) (news := [(Value.int .i64 next_1)]) ty39 ty3 rfl (by decide) hs75 rfl rfl f_g47 rfl (Src.owned' (len := 1) (hs75.get (i := 0) rfl) rfl) (show Els (rInt .i64) _ _ [(Value.int .i64 next_1)] [next_1] from ⟨_, _, rfl, (mk_int r_y63), Els.nil⟩) hc78 (by have := hc78; simp only [maxLen]; omega) ?_)
       intro a82 c83 k84 o85 w79 p80 hs81 f86
       replace f_a_volumes := f_a_volumes.step p80; replace f_a_sectors := f_a_sectors.step p80; replace f_a_configs := f_a_configs.step p80; replace f_a_segments := f_a_segments.step p80; replace f_a_routes := f_a_routes.step p80; replace f_a_airports := f_a_airports.step p80; replace f_a_classes := f_a_classes.step p80; replace f_a_rules := f_a_rules.step p80; replace f30 := f30.step p80; replace ch60 := ch60.trans p80; clear p80 hs75
       have hs87 := hs81.drop 0
       replace f_a_volumes := f_a_volumes.step (hs81.dropS 0)
       replace f_a_sectors := f_a_sectors.step (hs81.dropS 0)
       replace f_a_configs := f_a_configs.step (hs81.dropS 0)
       replace f_a_segments := f_a_segments.step (hs81.dropS 0)
       replace f_a_routes := f_a_routes.step (hs81.dropS 0)
       replace f_a_airports := f_a_airports.step (hs81.dropS 0)
       replace f_a_classes := f_a_classes.step (hs81.dropS 0)
       replace f_a_rules := f_a_rules.step (hs81.dropS 0)
       replace f30 := f30.step (hs81.dropS 0)
       replace f86 := f86.step (hs81.dropS 0)
       replace ch60 := ch60.trans (hs81.dropS 0); clear hs81
       refine Rg_op rfl (op_assign (v := (Value.slice a82 (out_1 ++ [next_1]).length c83)) rfl ?_)
       refine Rg_nil ?_
       exact hK52 _ _ ⟨(out_1 ++ [next_1]), next_1, a82, c83, k84, o85, _, rfl, ⟨(by repeat (first | with_reducible exact Out.refl _ _ | refine Out.upd ?_ rfl | refine Out.updL ?_ rfl | refine Out.mix' ?_ rfl | exact Out.refl _ _)), rfl, rfl, rfl, trivial⟩, ch60, hs87, f86, r_y63, jnE2 hsf51 hm⟩
      ·
       intro K66 hK66
       have ch88 := Step.refl (ks [(k_g47, o_g47), (some b34, o28), (some b1, Obj.cells [(Value.slice a_a_volumes a.volumes.length c_a_volumes), (Value.slice a_a_sectors a.sectors.length c_a_sectors), (Value.slice a_a_configs a.configs.length c_a_configs), (Value.slice a_a_segments a.segments.length c_a_segments), (Value.slice a_a_routes a.routes.length c_a_routes), (Value.slice a_a_airports a.airports.length c_a_airports), (Value.slice a_a_classes a.classes.length c_a_classes), (Value.slice a_a_rules a.rules.length c_a_rules)].toArray 31)] O) w55
       refine Wp_block ?_
       refine Wp_reset2 [12, 52, 53, 54, 55, 56, 57, 58, 59, 60, 61, 62, 63, 64, 65, 66, 67, 68, 69, 70] [] (updL (mix [10, 11, 12, 49, 50, 51, 52, 53, 54, 55, 56, 57, 58, 59, 60, 61, 62, 63, 64, 65, 66, 67, 68, 69, 70, 71, 72, 73, 74, 75] [] ξ62 (updL ⟨ξ49, []⟩ [(2, (Value.int .i64 to)), (3, (Value.pointer (some ⟨b1, 0, none⟩))), (9, (Value.slice (some ⟨b34, 0, none⟩) distances_1.length c26)), (10, (Value.slice (some ⟨b41, 0, none⟩) 1 1)), (11, (Value.int .i64 from_))])) [(10, (Value.slice a_g47 out_1.length c_g47)), (11, (Value.int .i64 at_1)), (12, (Value.int .i64 0))]) [(12, (Value.int .i64 0))] (by repeat (first | with_reducible exact Out.refl _ _ | refine Out.upd ?_ rfl | refine Out.updL ?_ rfl | refine Out.mix' ?_ rfl | exact Out.refl _ _)) rfl ⟨rfl, trivial⟩ fun ξ90 => ?_
       refine Wp_loopM [12, 52, 53, 54, 55, 56, 57, 58, 59, 60, 61, 62, 63, 64, 65, 66, 67, 68, 69, 70] (fun m fr w' => ∃ (next_2 : Int) (Ebs : Ents), Ebs = [(k_g47, o_g47), (some b34, o28), (some b1, Obj.cells [(Value.slice a_a_volumes a.volumes.length c_a_volumes), (Value.slice a_a_sectors a.sectors.length c_a_sectors), (Value.slice a_a_configs a.configs.length c_a_configs), (Value.slice a_a_segments a.segments.length c_a_segments), (Value.slice a_a_routes a.routes.length c_a_routes), (Value.slice a_a_airports a.airports.length c_a_airports), (Value.slice a_a_classes a.classes.length c_a_classes), (Value.slice a_a_rules a.rules.length c_a_rules)].toArray 31)] ∧ fr [] [(12, (Value.int .i64 next_2))] ∧ Step (ks [(k_g47, o_g47), (some b34, o28), (some b1, Obj.cells [(Value.slice a_a_volumes a.volumes.length c_a_volumes), (Value.slice a_a_sectors a.sectors.length c_a_sectors), (Value.slice a_a_configs a.configs.length c_a_configs), (Value.slice a_a_segments a.segments.length c_a_segments), (Value.slice a_a_routes a.routes.length c_a_routes), (Value.slice a_a_airports a.airports.length c_a_airports), (Value.slice a_a_classes a.classes.length c_a_classes), (Value.slice a_a_rules a.rules.length c_a_rules)].toArray 31)] O) w55 (ks Ebs O) w' ∧ St ⟨w, [], []⟩ O w' Ebs ∧ InK .i64 next_2 ∧ loop1 (m23_overflightref10_Path_B1 a distances_1 at_1 k64) m next_2 = some x) (1000000) ⟨0, _, rfl, ⟨Out.refl _ _, rfl, rfl, trivial⟩, Step.refl _ _, hs56, (show InK .i64 0 from by decide), hm⟩ ?_ ?_
       · rintro _ _ ⟨_, _, _, _, _, _, _, hm⟩; exact loop1_z hm
       ·
        rintro m94 K93 hK93 ρ99 w95 ⟨next_2, Ebs, hEbs, hfr98, hst97, hs96, r_y89, hm⟩
        obtain ⟨sf91, hsf92, hm⟩ := loop1_s hm; unfold m23_overflightref10_Path_B1 at hm
        subst hEbs; rw [hfr98.eq]; clear hfr98
        replace f_a_volumes := f_a_volumes.step hst97; replace f_a_sectors := f_a_sectors.step hst97; replace f_a_configs := f_a_configs.step hst97; replace f_a_segments := f_a_segments.step hst97; replace f_a_routes := f_a_routes.step hst97; replace f_a_airports := f_a_airports.step hst97; replace f_a_classes := f_a_classes.step hst97; replace f_a_rules := f_a_rules.step hst97; replace f30 := f30.step hst97; replace f_g47 := f_g47.step hst97; replace ch60 := ch60.trans hst97; replace ch88 := ch88.trans hst97
        have ch100 := hst97
        refine Wp_seq ?_
        refine Wp_reset2 [12, 52, 53, 54, 55, 56, 57, 58, 59, 60, 61, 62, 63, 64, 65, 66, 67, 68, 69, 70] [] (updL (mix [12, 52, 53, 54, 55, 56, 57, 58, 59, 60, 61, 62, 63, 64, 65, 66, 67, 68, 69, 70] [] ξ90 (updL (mix [10, 11, 12, 49, 50, 51, 52, 53, 54, 55, 56, 57, 58, 59, 60, 61, 62, 63, 64, 65, 66, 67, 68, 69, 70, 71, 72, 73, 74, 75] [] ξ62 (updL ⟨ξ49, []⟩ [(2, (Value.int .i64 to)), (3, (Value.pointer (some ⟨b1, 0, none⟩))), (9, (Value.slice (some ⟨b34, 0, none⟩) distances_1.length c26)), (10, (Value.slice (some ⟨b41, 0, none⟩) 1 1)), (11, (Value.int .i64 from_))])) [(10, (Value.slice a_g47 out_1.length c_g47)), (11, (Value.int .i64 at_1)), (12, (Value.int .i64 0))])) [(12, (Value.int .i64 0))]) [(12, (Value.int .i64 next_2))] (by repeat (first | with_reducible exact Out.refl _ _ | refine Out.upd ?_ rfl | refine Out.updL ?_ rfl | refine Out.mix' ?_ rfl | exact Out.refl _ _)) rfl ⟨rfl, trivial⟩ fun ξ101 => ?_
        replace hm := jn_elim hm; obtain ⟨k103, hk104, hm⟩ := hm
        refine Wp_seqJ [52, 53, 54, 55, 56, 57, 58, 59, 60, 61, 62, 63, 64, 65, 66, 67, 68] (fun fr w' => ∃ (v_2 : Bool) (Ebs : Ents), Ebs = [(k_g47, o_g47), (some b34, o28), (some b1, Obj.cells [(Value.slice a_a_volumes a.volumes.length c_a_volumes), (Value.slice a_a_sectors a.sectors.length c_a_sectors), (Value.slice a_a_configs a.configs.length c_a_configs), (Value.slice a_a_segments a.segments.length c_a_segments), (Value.slice a_a_routes a.routes.length c_a_routes), (Value.slice a_a_airports a.airports.length c_a_airports), (Value.slice a_a_classes a.classes.length c_a_classes), (Value.slice a_a_rules a.rules.length c_a_rules)].toArray 31)] ∧ fr [] [(68, (Value.bool v_2))] ∧ Step (ks [(k_g47, o_g47), (some b34, o28), (some b1, Obj.cells [(Value.slice a_a_volumes a.volumes.length c_a_volumes), (Value.slice a_a_sectors a.sectors.length c_a_sectors), (Value.slice a_a_configs a.configs.length c_a_configs), (Value.slice a_a_segments a.segments.length c_a_segments), (Value.slice a_a_routes a.routes.length c_a_routes), (Value.slice a_a_airports a.airports.length c_a_airports), (Value.slice a_a_classes a.classes.length c_a_classes), (Value.slice a_a_rules a.rules.length c_a_rules)].toArray 31)] O) w95 (ks Ebs O) w' ∧ St ⟨w, [], []⟩ O w' Ebs ∧ k103 v_2 = some x) ?_ ?_
        ·
         rintro ρ110 w106 ⟨v_2, Ebs, hEbs, hfr109, hst108, hs107, hm⟩
         replace hm := jnE1 hk104 hm
         subst hEbs; rw [hfr109.eq]; clear hfr109
         replace f_a_volumes := f_a_volumes.step hst108; replace f_a_sectors := f_a_sectors.step hst108; replace f_a_configs := f_a_configs.step hst108; replace f_a_segments := f_a_segments.step hst108; replace f_a_routes := f_a_routes.step hst108; replace f_a_airports := f_a_airports.step hst108; replace f_a_classes := f_a_classes.step hst108; replace f_a_rules := f_a_rules.step hst108; replace f30 := f30.step hst108; replace f_g47 := f_g47.step hst108; replace ch60 := ch60.trans hst108; replace ch88 := ch88.trans hst108; replace ch100 := ch100.trans hst108; clear hst108 hs96
         refine Wp_cond rfl (fun hc111 => ?_) (fun hc111 => ?_)
         ·
          replace hm := bif_t hm hc111
          refine Wp_skip ?_
          refine Wp_block ?_
          refine Wp_region ?_
          refine Rg_op rfl (op_move (v := (Value.int .i64 next_2)) rfl ?_)
          refine Rg_op rfl (op_addw rfl rfl ?_)
          refine Rg_op rfl (op_assign (v := (Value.int .i64 (IntKind.wrap .i64 (next_2 + 1)))) rfl ?_)
          refine Rg_nil ?_
          exact hK93 _ _ ⟨(IntKind.wrap .i64 (next_2 + 1)), _, rfl, ⟨(by repeat (first | with_reducible exact Out.refl _ _ | refine Out.upd ?_ rfl | refine Out.updL ?_ rfl | refine Out.mix' ?_ rfl | exact Out.refl _ _)), rfl, rfl, trivial⟩, ch100, hs107, (inK_wrap .i64 _), jnE1 hsf92 hm⟩
         ·
          replace hm := bif_f hm hc111
          refine Wp_exit ?_
          exact hK66 _ _ ⟨next_2, _, rfl, ⟨(by repeat (first | with_reducible exact Out.refl _ _ | refine Out.upd ?_ rfl | refine Out.updL ?_ rfl | refine Out.mix' ?_ rfl | exact Out.refl _ _)), rfl, rfl, trivial⟩, ch88, hs107, r_y89, hm⟩
        ·
         intro K105 hK105
         have ch112 := Step.refl (ks [(k_g47, o_g47), (some b34, o28), (some b1, Obj.cells [(Value.slice a_a_volumes a.volumes.length c_a_volumes), (Value.slice a_a_sectors a.sectors.length c_a_sectors), (Value.slice a_a_configs a.configs.length c_a_configs), (Value.slice a_a_segments a.segments.length c_a_segments), (Value.slice a_a_routes a.routes.length c_a_routes), (Value.slice a_a_airports a.airports.length c_a_airports), (Value.slice a_a_classes a.classes.length c_a_classes), (Value.slice a_a_rules a.rules.length c_a_rules)].toArray 31)] O) w95
         refine Wp_drawR (g0 := []) (m := 14) (fl := []) (TS_inv hs96) (.inl rfl) rfl (by decide +kernel) ?_  -- 10
         refine Dw_eq (Value.slice (some ⟨b34, 0, none⟩) distances_1.length c26) (fun ρ113 w114 g hle hi ht => ?_) ?_
         ·
          obtain ⟨-, hst, -⟩ := hle
          refine StepOp_plain (op_move (v := (Value.slice (some ⟨b34, 0, none⟩) distances_1.length c26)) (ht 9 rfl) ?_)
          exact Goes.same hi rfl
         refine Dw_eq (Value.int .i64 next_2) (fun ρ116 w117 g hle hi ht => ?_) ?_
         ·
          obtain ⟨-, hst, -⟩ := hle
          refine StepOp_plain (op_move (v := (Value.int .i64 next_2)) (ht 12 rfl) ?_)
          exact Goes.same hi rfl
         replace hm := ck_some hm; obtain ⟨hc122, hm⟩ := hm
         refine Dw_eq (Value.pointer (some ⟨b34, next_2.toNat * 1, none⟩)) (fun ρ119 w120 g hle hi ht => ?_) ?_
         ·
          obtain ⟨-, hst, -⟩ := hle
          replace f30 := f30.step hst
          refine StepOp_plain (op_indexAddrG ty39 ty3 (ht 52 rfl) (ht 53 rfl) f30 hc122 ?_)
          rintro _ ⟨⟩ -
          exact Goes.same hi rfl
         refine Dw_op (VD O [(k_g47, o_g47), (some b34, o28), (some b1, Obj.cells [(Value.slice a_a_volumes a.volumes.length c_a_volumes), (Value.slice a_a_sectors a.sectors.length c_a_sectors), (Value.slice a_a_configs a.configs.length c_a_configs), (Value.slice a_a_segments a.segments.length c_a_segments), (Value.slice a_a_routes a.routes.length c_a_routes), (Value.slice a_a_airports a.airports.length c_a_airports), (Value.slice a_a_classes a.classes.length c_a_classes), (Value.slice a_a_rules a.rules.length c_a_rules)].toArray 31)] (vI .i64) (distances_1.getD next_2.toNat default)) (VD.stab _ _) (fun ρ124 w125 g hle hi ht => ?_) ?_
         ·
          obtain ⟨-, hst, -⟩ := hle
          replace f30 := f30.step hst
          have hsn := (Step.nx hi).1
          refine StepOp_plain (op_loadG (i := 1) ty3 rfl hsn rfl (ht 54 rfl) f30 hc122 ?_)
          intro v127 h128
          obtain ⟨rfl, r_y129⟩ := un_int h128
          exact Goes.same hi (show Vr.vd (vI .i64) _ _ _ _ from ⟨rfl, r_y129⟩)
         refine Dw_eq (Value.slice (some ⟨b34, 0, none⟩) distances_1.length c26) (fun ρ130 w131 g hle hi ht => ?_) ?_
         ·
          obtain ⟨-, hst, -⟩ := hle
          refine StepOp_plain (op_move (v := (Value.slice (some ⟨b34, 0, none⟩) distances_1.length c26)) (ht 9 rfl) ?_)
          exact Goes.same hi rfl
         refine Dw_eq (Value.int .i64 at_1) (fun ρ133 w134 g hle hi ht => ?_) ?_
         ·
          obtain ⟨-, hst, -⟩ := hle
          refine StepOp_plain (op_move (v := (Value.int .i64 at_1)) (ht 11 rfl) ?_)
          exact Goes.same hi rfl
         replace hm := ck_some hm; obtain ⟨hc139, hm⟩ := hm
         refine Dw_eq (Value.pointer (some ⟨b34, at_1.toNat * 1, none⟩)) (fun ρ136 w137 g hle hi ht => ?_) ?_
         ·
          obtain ⟨-, hst, -⟩ := hle
          replace f30 := f30.step hst
          refine StepOp_plain (op_indexAddrG ty39 ty3 (ht 56 rfl) (ht 57 rfl) f30 hc139 ?_)
          rintro _ ⟨⟩ -
          exact Goes.same hi rfl
         refine Dw_op (VD O [(k_g47, o_g47), (some b34, o28), (some b1, Obj.cells [(Value.slice a_a_volumes a.volumes.length c_a_volumes), (Value.slice a_a_sectors a.sectors.length c_a_sectors), (Value.slice a_a_configs a.configs.length c_a_configs), (Value.slice a_a_segments a.segments.length c_a_segments), (Value.slice a_a_routes a.routes.length c_a_routes), (Value.slice a_a_airports a.airports.length c_a_airports), (Value.slice a_a_classes a.classes.length c_a_classes), (Value.slice a_a_rules a.rules.length c_a_rules)].toArray 31)] (vI .i64) (distances_1.getD at_1.toNat default)) (VD.stab _ _) (fun ρ141 w142 g hle hi ht => ?_) ?_
         ·
          obtain ⟨-, hst, -⟩ := hle
          replace f30 := f30.step hst
          have hsn := (Step.nx hi).1
          refine StepOp_plain (op_loadG (i := 1) ty3 rfl hsn rfl (ht 58 rfl) f30 hc139 ?_)
          intro v144 h145
          obtain ⟨rfl, r_y146⟩ := un_int h145
          exact Goes.same hi (show Vr.vd (vI .i64) _ _ _ _ from ⟨rfl, r_y146⟩)
         refine Dw_eq (Value.int .i64 (IntKind.wrap .i64 ((distances_1.getD at_1.toNat default) - 1))) (fun ρ147 w148 g hle hi ht => ?_) ?_
         ·
          obtain ⟨-, hst, -⟩ := hle
          have h150 : Vr.vd (vI .i64) _ _ _ _ := ht 59 rfl
          obtain ⟨q151, r_y152⟩ := h150
          refine StepOp_plain (op_subw q151 rfl ?_)
          exact Goes.same hi rfl
         refine Dw_eq (Value.bool (decide ((distances_1.getD next_2.toNat default) ≠ (IntKind.wrap .i64 ((distances_1.getD at_1.toNat default) - 1))))) (fun ρ153 w154 g hle hi ht => ?_) ?_
         ·
          obtain ⟨-, hst, -⟩ := hle
          have h156 : Vr.vd (vI .i64) _ _ _ _ := ht 55 rfl
          obtain ⟨q157, r_y158⟩ := h156
          refine StepOp_plain (op_neq q157 (ht 60 rfl) ?_)
          exact Goes.same hi rfl
         refine Dw_opB (decide ((distances_1.getD next_2.toNat default) ≠ (IntKind.wrap .i64 ((distances_1.getD at_1.toNat default) - 1)))) (fun ρ159 w160 g hle hi ht => ?_) (fun hg162 => ?_) (fun hg162 => ?_)
         ·
          obtain ⟨-, hst, -⟩ := hle
          refine StepOp_plain (op_move (v := (Value.bool (decide ((distances_1.getD next_2.toNat default) ≠ (IntKind.wrap .i64 ((distances_1.getD at_1.toNat default) - 1)))))) (ht 61 rfl) ?_)
          exact Goes.same hi rfl
         ·
          replace hm := bif_t hm hg162
          refine Dw_skip (fun _ _ _ ht => wanted_x rfl (ht 62 rfl) rfl) ?_
          refine Dw_skip (fun _ _ _ ht => wanted_x rfl (ht 62 rfl) rfl) ?_
          refine Dw_skip (fun _ _ _ ht => wanted_x rfl (ht 62 rfl) rfl) ?_
          refine Dw_nil fun w167 g168 hl169 hi170 => ?_
          obtain ⟨-, hst171, -⟩ := hl169
          obtain ⟨hs173, p172⟩ := Step.nx hi170
          rintro _ rfl
          rintro _ rfl
          rintro _ rfl
          rintro _ rfl
          rintro _ rfl
          rintro _ rfl
          rintro v174 h175
          replace h175 : Vr.vd (vI .i64) _ _ _ _ := h175
          obtain ⟨rfl, r_y176⟩ := h175
          rintro _ rfl
          rintro _ rfl
          rintro _ rfl
          rintro v177 h178
          replace h178 : Vr.vd (vI .i64) _ _ _ _ := h178
          obtain ⟨rfl, r_y179⟩ := h178
          rintro _ rfl
          rintro _ rfl
          rintro _ rfl
          have p180 : Step (ks [(k_g47, o_g47), (some b34, o28), (some b1, Obj.cells [(Value.slice a_a_volumes a.volumes.length c_a_volumes), (Value.slice a_a_sectors a.sectors.length c_a_sectors), (Value.slice a_a_configs a.configs.length c_a_configs), (Value.slice a_a_segments a.segments.length c_a_segments), (Value.slice a_a_routes a.routes.length c_a_routes), (Value.slice a_a_airports a.airports.length c_a_airports), (Value.slice a_a_classes a.classes.length c_a_classes), (Value.slice a_a_rules a.rules.length c_a_rules)].toArray 31)] O) w95 (ks [(k_g47, o_g47), (some b34, o28), (some b1, Obj.cells [(Value.slice a_a_volumes a.volumes.length c_a_volumes), (Value.slice a_a_sectors a.sectors.length c_a_sectors), (Value.slice a_a_configs a.configs.length c_a_configs), (Value.slice a_a_segments a.segments.length c_a_segments), (Value.slice a_a_routes a.routes.length c_a_routes), (Value.slice a_a_airports a.airports.length c_a_airports), (Value.slice a_a_classes a.classes.length c_a_classes), (Value.slice a_a_rules a.rules.length c_a_rules)].toArray 31)] O) w167 := hst171.trans p172
          replace f_a_volumes := f_a_volumes.step p180; replace f_a_sectors := f_a_sectors.step p180; replace f_a_configs := f_a_configs.step p180; replace f_a_segments := f_a_segments.step p180; replace f_a_routes := f_a_routes.step p180; replace f_a_airports := f_a_airports.step p180; replace f_a_classes := f_a_classes.step p180; replace f_a_rules := f_a_rules.step p180; replace f30 := f30.step p180; replace f_g47 := f_g47.step p180; replace ch60 := ch60.trans p180; replace ch88 := ch88.trans p180; replace ch100 := ch100.trans p180; replace ch112 := ch112.trans p180; clear p180 hs96
          iterate 2 refine Rg_opx rfl (asB_ne rfl rfl) rfl ?_
          refine Rg_op rfl (op_pick_t (v := (Value.bool true)) rfl rfl ?_)
          refine Rg_nil ?_
          exact hK105 _ _ ⟨true, _, rfl, ⟨(by repeat (first | with_reducible exact Out.refl _ _ | refine Out.upd ?_ rfl | refine Out.updL ?_ rfl | refine Out.mix' ?_ rfl | exact Out.refl _ _)), rfl, rfl, trivial⟩, ch112, hs173, hm⟩
         ·
          replace hm := bif_f hm hg162
          refine Dw_eq (Value.agg [(Value.slice a_a_volumes a.volumes.length c_a_volumes), (Value.slice a_a_sectors a.sectors.length c_a_sectors), (Value.slice a_a_configs a.configs.length c_a_configs), (Value.slice a_a_segments a.segments.length c_a_segments), (Value.slice a_a_routes a.routes.length c_a_routes), (Value.slice a_a_airports a.airports.length c_a_airports), (Value.slice a_a_classes a.classes.length c_a_classes), (Value.slice a_a_rules a.rules.length c_a_rules)].toArray) (fun ρ181 w182 g hle hi ht => ?_) ?_
          ·
           obtain ⟨-, hst, -⟩ := hle
           have hsn := (Step.nx hi).1
           refine StepOp_g rfl (ht 62 rfl) (op_loadA (cs := [(Value.slice a_a_volumes a.volumes.length c_a_volumes), (Value.slice a_a_sectors a.sectors.length c_a_sectors), (Value.slice a_a_configs a.configs.length c_a_configs), (Value.slice a_a_segments a.segments.length c_a_segments), (Value.slice a_a_routes a.routes.length c_a_routes), (Value.slice a_a_airports a.airports.length c_a_airports), (Value.slice a_a_classes a.classes.length c_a_classes), (Value.slice a_a_rules a.rules.length c_a_rules)]) (vs := [(Value.slice a_a_volumes a.volumes.length c_a_volumes), (Value.slice a_a_sectors a.sectors.length c_a_sectors), (Value.slice a_a_configs a.configs.length c_a_configs), (Value.slice a_a_segments a.segments.length c_a_segments), (Value.slice a_a_routes a.routes.length c_a_routes), (Value.slice a_a_airports a.airports.length c_a_airports), (Value.slice a_a_classes a.classes.length c_a_classes), (Value.slice a_a_rules a.rules.length c_a_rules)]) (i := 2) ty31 hsn (ht 3 rfl) rfl rfl rfl ?_)
           exact Goes.same hi rfl
          refine Dw_eq (Value.int .i64 at_1) (fun ρ184 w185 g hle hi ht => ?_) ?_
          ·
           obtain ⟨-, hst, -⟩ := hle
           refine StepOp_g rfl (ht 62 rfl) (op_move (v := (Value.int .i64 at_1)) (ht 11 rfl) ?_)
           exact Goes.same hi rfl
          refine Dw_eq (Value.int .i64 next_2) (fun ρ187 w188 g hle hi ht => ?_) ?_
          ·
           obtain ⟨-, hst, -⟩ := hle
           refine StepOp_g rfl (ht 62 rfl) (op_move (v := (Value.int .i64 next_2)) (ht 12 rfl) ?_)
           exact Goes.same hi rfl
          refine Dw_nil fun w194 g195 hl196 hi197 => ?_
          obtain ⟨-, hst198, -⟩ := hl196
          obtain ⟨hs200, p199⟩ := Step.nx hi197
          rintro _ rfl
          rintro _ rfl
          rintro _ rfl
          rintro _ rfl
          rintro _ rfl
          rintro _ rfl
          rintro v201 h202
          replace h202 : Vr.vd (vI .i64) _ _ _ _ := h202
          obtain ⟨rfl, r_y203⟩ := h202
          rintro _ rfl
          rintro _ rfl
          rintro _ rfl
          rintro v204 h205
          replace h205 : Vr.vd (vI .i64) _ _ _ _ := h205
          obtain ⟨rfl, r_y206⟩ := h205
          rintro _ rfl
          rintro _ rfl
          rintro _ rfl
          have p207 : Step (ks [(k_g47, o_g47), (some b34, o28), (some b1, Obj.cells [(Value.slice a_a_volumes a.volumes.length c_a_volumes), (Value.slice a_a_sectors a.sectors.length c_a_sectors), (Value.slice a_a_configs a.configs.length c_a_configs), (Value.slice a_a_segments a.segments.length c_a_segments), (Value.slice a_a_routes a.routes.length c_a_routes), (Value.slice a_a_airports a.airports.length c_a_airports), (Value.slice a_a_classes a.classes.length c_a_classes), (Value.slice a_a_rules a.rules.length c_a_rules)].toArray 31)] O) w95 (ks [(k_g47, o_g47), (some b34, o28), (some b1, Obj.cells [(Value.slice a_a_volumes a.volumes.length c_a_volumes), (Value.slice a_a_sectors a.sectors.length c_a_sectors), (Value.slice a_a_configs a.configs.length c_a_configs), (Value.slice a_a_segments a.segments.length c_a_segments), (Value.slice a_a_routes a.routes.length c_a_routes), (Value.slice a_a_airports a.airports.length c_a_airports), (Value.slice a_a_classes a.classes.length c_a_classes), (Value.slice a_a_rules a.rules.length c_a_rules)].toArray 31)] O) w194 := hst198.trans p199
          replace f_a_volumes := f_a_volumes.step p207; replace f_a_sectors := f_a_sectors.step p207; replace f_a_configs := f_a_configs.step p207; replace f_a_segments := f_a_segments.step p207; replace f_a_routes := f_a_routes.step p207; replace f_a_airports := f_a_airports.step p207; replace f_a_classes := f_a_classes.step p207; replace f_a_rules := f_a_rules.step p207; replace f30 := f30.step p207; replace f_g47 := f_g47.step p207; replace ch60 := ch60.trans p207; replace ch88 := ch88.trans p207; replace ch100 := ch100.trans p207; replace ch112 := ch112.trans p207; clear p207 hs96
          replace hm := bd hm; obtain ⟨step_1, hv208, hm⟩ := hm
          refine Rg_opg rfl rfl rfl (op_call Try.call20 (c20_overflightref10_Step (a := a) (from_ := at_1) (to := next_2) hs200.ltw f_a_volumes f_a_sectors f_a_configs f_a_segments f_a_routes f_a_airports f_a_classes f_a_rules r_y48 r_y89 hv208) rfl ?_)
          rintro v209 w210 ⟨hx211, h212⟩
          have hs213 := hs200.call hx211
          have p214 := Step.ext (O := ks [(k_g47, o_g47), (some b34, o28), (some b1, Obj.cells [(Value.slice a_a_volumes a.volumes.length c_a_volumes), (Value.slice a_a_sectors a.sectors.length c_a_sectors), (Value.slice a_a_configs a.configs.length c_a_configs), (Value.slice a_a_segments a.segments.length c_a_segments), (Value.slice a_a_routes a.routes.length c_a_routes), (Value.slice a_a_airports a.airports.length c_a_airports), (Value.slice a_a_classes a.classes.length c_a_classes), (Value.slice a_a_rules a.rules.length c_a_rules)].toArray 31)] O) hx211
          clear hx211
          replace f_a_volumes := f_a_volumes.step p214; replace f_a_sectors := f_a_sectors.step p214; replace f_a_configs := f_a_configs.step p214; replace f_a_segments := f_a_segments.step p214; replace f_a_routes := f_a_routes.step p214; replace f_a_airports := f_a_airports.step p214; replace f_a_classes := f_a_classes.step p214; replace f_a_rules := f_a_rules.step p214; replace f30 := f30.step p214; replace f_g47 := f_g47.step p214; replace ch60 := ch60.trans p214; replace ch88 := ch88.trans p214; replace ch100 := ch100.trans p214; replace ch112 := ch112.trans p214; clear p214 hs200
          obtain rfl := h212
          refine Rg_opg rfl rfl rfl (op_not rfl ?_)
          refine Rg_op rfl (op_pick_f (v := (Value.bool (!step_1))) rfl rfl ?_)
          refine Rg_nil ?_
          exact hK105 _ _ ⟨(!step_1), _, rfl, ⟨(by repeat (first | with_reducible exact Out.refl _ _ | refine Out.upd ?_ rfl | refine Out.updL ?_ rfl | refine Out.mix' ?_ rfl | exact Out.refl _ _)), rfl, rfl, trivial⟩, ch112, hs213, hm⟩
     ·
      replace hm := bif_f hm hc61
      refine Wp_exit ?_
      refine Wp_seq ?_
      obtain ⟨hs216, p217⟩ := hs56.sub (bs' := [(k_g47, o_g47)]) (.cons_cons _ (.cons _ (.cons _ List.Sublist.slnil)))
      clear f_a_volumes f_a_sectors f_a_configs f_a_segments f_a_routes f_a_airports f_a_classes f_a_rules f30
      replace f_g47 := f_g47.step p217; replace ch60 := ch60.trans p217; clear p217 hs56
      refine Wp_region ?_
      refine Rg_op rfl (op_move (v := (Value.slice a_g47 out_1.length c_g47)) rfl ?_)
      refine Rg_op rfl (op_assign (v := (Value.slice a_g47 out_1.length c_g47)) rfl ?_)
      refine Rg_op rfl (op_assign (v := (Value.bool true)) rfl ?_)
      refine Rg_op rfl (op_assign (v := (Value.int .i64 0)) rfl ?_)
      refine Rg_nil ?_
      refine Wp_ret ?_
      obtain ⟨hs219, p220, f218⟩ := Gs.publish (i := 0) hs216 rfl f_g47
      replace ch60 := ch60.trans p220; clear p220 hs216
      have hz := step_all hs219
      replace f218 := f218.step hz
      refine ⟨_, (show Closes [] _ _ from rfl), [(Value.slice a_g47 out_1.length c_g47), (Value.bool true), (Value.int .i64 0)], ⟨rfl, rfl, rfl, trivial⟩, hs219.ext, ?_⟩
      exact Vr.eq (a := (vT3 (vC (rSl (rInt .i64))) vB (vI .i64))) (x := (out_1, true, 0)) (mkT3 (mkC (mk_sl f218)) rfl ⟨rfl, (show InK .i64 0 from by decide)⟩) (Option.some.inj hm)
 ·
  intro K10 hK10
  have ch221 := Step.refl (ks [(some b1, Obj.cells [(Value.slice a_a_volumes a.volumes.length c_a_volumes), (Value.slice a_a_sectors a.sectors.length c_a_sectors), (Value.slice a_a_configs a.configs.length c_a_configs), (Value.slice a_a_segments a.segments.length c_a_segments), (Value.slice a_a_routes a.routes.length c_a_routes), (Value.slice a_a_airports a.airports.length c_a_airports), (Value.slice a_a_classes a.classes.length c_a_classes), (Value.slice a_a_rules a.rules.length c_a_rules)].toArray 31)] O) w2
  refine Wp_region ?_
  refine Rg_op rfl (op_loadA (cs := [(Value.slice a_a_volumes a.volumes.length c_a_volumes), (Value.slice a_a_sectors a.sectors.length c_a_sectors), (Value.slice a_a_configs a.configs.length c_a_configs), (Value.slice a_a_segments a.segments.length c_a_segments), (Value.slice a_a_routes a.routes.length c_a_routes), (Value.slice a_a_airports a.airports.length c_a_airports), (Value.slice a_a_classes a.classes.length c_a_classes), (Value.slice a_a_rules a.rules.length c_a_rules)]) (vs := [(Value.slice a_a_volumes a.volumes.length c_a_volumes), (Value.slice a_a_sectors a.sectors.length c_a_sectors), (Value.slice a_a_configs a.configs.length c_a_configs), (Value.slice a_a_segments a.segments.length c_a_segments), (Value.slice a_a_routes a.routes.length c_a_routes), (Value.slice a_a_airports a.airports.length c_a_airports), (Value.slice a_a_classes a.classes.length c_a_classes), (Value.slice a_a_rules a.rules.length c_a_rules)]) (i := 0) ty31 hs4 rfl rfl rfl rfl ?_)
  replace hm := bd hm; obtain ⟨check_1, hv222, hm⟩ := hm
  refine Rg_op rfl (op_call Try.call16 (c16_overflightref10_Check (a := a) hs4.ltw f_a_volumes f_a_sectors f_a_configs f_a_segments f_a_routes f_a_airports f_a_classes f_a_rules hv222) rfl ?_)
  rintro v223 w224 ⟨hx225, h226⟩
  have hs227 := hs4.call hx225
  have p228 := Step.ext (O := ks [(some b1, Obj.cells [(Value.slice a_a_volumes a.volumes.length c_a_volumes), (Value.slice a_a_sectors a.sectors.length c_a_sectors), (Value.slice a_a_configs a.configs.length c_a_configs), (Value.slice a_a_segments a.segments.length c_a_segments), (Value.slice a_a_routes a.routes.length c_a_routes), (Value.slice a_a_airports a.airports.length c_a_airports), (Value.slice a_a_classes a.classes.length c_a_classes), (Value.slice a_a_rules a.rules.length c_a_rules)].toArray 31)] O) hx225
  clear hx225
  replace f_a_volumes := f_a_volumes.step p228; replace f_a_sectors := f_a_sectors.step p228; replace f_a_configs := f_a_configs.step p228; replace f_a_segments := f_a_segments.step p228; replace f_a_routes := f_a_routes.step p228; replace f_a_airports := f_a_airports.step p228; replace f_a_classes := f_a_classes.step p228; replace f_a_rules := f_a_rules.step p228; replace ch221 := ch221.trans p228; clear p228 hs4
  obtain ⟨rfl, r_y229⟩ := h226
  refine Rg_op rfl (op_neq rfl rfl ?_)
  refine Rg_op rfl (op_move (v := (Value.bool (decide (check_1 ≠ 0)))) rfl ?_)
  refine Rg_case (fun hg230 => ?_) (fun hg230 => ?_)
  ·
   replace hm := bif_t hm hg230
   iterate 2 refine Rg_opx rfl (asB_ne rfl rfl) rfl ?_
   refine Rg_op rfl (op_pick_t (v := (Value.bool true)) rfl rfl ?_)
   refine Rg_op rfl (op_move (v := (Value.bool true)) rfl ?_)
   iterate 5 refine Rg_opx rfl (asB_ne rfl rfl) rfl ?_
   refine Rg_op rfl (op_pick_t (v := (Value.bool true)) rfl rfl ?_)
   refine Rg_op rfl (op_move (v := (Value.bool true)) rfl ?_)
   iterate 2 refine Rg_opx rfl (asB_ne rfl rfl) rfl ?_
   refine Rg_op rfl (op_pick_t (v := (Value.bool true)) rfl rfl ?_)
   refine Rg_op rfl (op_move (v := (Value.bool true)) rfl ?_)
   iterate 5 refine Rg_opx rfl (asB_ne rfl rfl) rfl ?_
   refine Rg_op rfl (op_pick_t (v := (Value.bool true)) rfl rfl ?_)
   refine Rg_nil ?_
   exact hK10 _ _ ⟨true, _, rfl, ⟨(by repeat (first | with_reducible exact Out.refl _ _ | refine Out.upd ?_ rfl | refine Out.updL ?_ rfl | refine Out.mix' ?_ rfl | exact Out.refl _ _)), rfl, rfl, trivial⟩, ch221, hs227, hm⟩
  ·
   replace hm := bif_f hm hg230
   refine Rg_opg rfl rfl rfl (op_move (v := (Value.int .i64 from_)) rfl ?_)
   refine Rg_opg rfl rfl rfl (op_lss rfl rfl ?_)
   refine Rg_op rfl (op_pick_f (v := (Value.bool (decide (from_ < 0)))) rfl rfl ?_)
   refine Rg_op rfl (op_move (v := (Value.bool (decide (from_ < 0)))) rfl ?_)
   refine Rg_case (fun hg231 => ?_) (fun hg231 => ?_)
   ·
    replace hm := bif_t hm hg231
    iterate 5 refine Rg_opx rfl (asB_ne rfl rfl) rfl ?_
    refine Rg_op rfl (op_pick_t (v := (Value.bool true)) rfl rfl ?_)
    refine Rg_op rfl (op_move (v := (Value.bool true)) rfl ?_)
    iterate 2 refine Rg_opx rfl (asB_ne rfl rfl) rfl ?_
    refine Rg_op rfl (op_pick_t (v := (Value.bool true)) rfl rfl ?_)
    refine Rg_op rfl (op_move (v := (Value.bool true)) rfl ?_)
    iterate 5 refine Rg_opx rfl (asB_ne rfl rfl) rfl ?_
    refine Rg_op rfl (op_pick_t (v := (Value.bool true)) rfl rfl ?_)
    refine Rg_nil ?_
    exact hK10 _ _ ⟨true, _, rfl, ⟨(by repeat (first | with_reducible exact Out.refl _ _ | refine Out.upd ?_ rfl | refine Out.updL ?_ rfl | refine Out.mix' ?_ rfl | exact Out.refl _ _)), rfl, rfl, trivial⟩, ch221, hs227, hm⟩
   ·
    replace hm := bif_f hm hg231
    refine Rg_opg rfl rfl rfl (op_move (v := (Value.int .i64 from_)) rfl ?_)
    refine Rg_opg rfl rfl rfl (op_fieldAddr ty31 rfl ty24 (by decide) rfl (rfl : _ = (⟨_, 2, none⟩ : Addr)) ?_)
    refine Rg_opg rfl rfl rfl (op_load (cs := [(Value.slice a_a_volumes a.volumes.length c_a_volumes), (Value.slice a_a_sectors a.sectors.length c_a_sectors), (Value.slice a_a_configs a.configs.length c_a_configs), (Value.slice a_a_segments a.segments.length c_a_segments), (Value.slice a_a_routes a.routes.length c_a_routes), (Value.slice a_a_airports a.airports.length c_a_airports), (Value.slice a_a_classes a.classes.length c_a_classes), (Value.slice a_a_rules a.rules.length c_a_rules)]) (i := 0) ty24 hs227 rfl rfl rfl ?_)
    refine Rg_opg rfl rfl rfl (op_len Try.underlying24 rfl ?_)
    refine Rg_opg rfl rfl rfl (op_geq rfl rfl ?_)
    refine Rg_op rfl (op_pick_f (v := (Value.bool (decide ((a.configs.length : Int) ≤ from_)))) rfl rfl ?_)
    refine Rg_op rfl (op_move (v := (Value.bool (decide ((a.configs.length : Int) ≤ from_)))) rfl ?_)
    refine Rg_case (fun hg232 => ?_) (fun hg232 => ?_)
    ·
     replace hm := bif_t hm hg232
     iterate 2 refine Rg_opx rfl (asB_ne rfl rfl) rfl ?_
     refine Rg_op rfl (op_pick_t (v := (Value.bool true)) rfl rfl ?_)
     refine Rg_op rfl (op_move (v := (Value.bool true)) rfl ?_)
     iterate 5 refine Rg_opx rfl (asB_ne rfl rfl) rfl ?_
     refine Rg_op rfl (op_pick_t (v := (Value.bool true)) rfl rfl ?_)
     refine Rg_nil ?_
     exact hK10 _ _ ⟨true, _, rfl, ⟨(by repeat (first | with_reducible exact Out.refl _ _ | refine Out.upd ?_ rfl | refine Out.updL ?_ rfl | refine Out.mix' ?_ rfl | exact Out.refl _ _)), rfl, rfl, trivial⟩, ch221, hs227, hm⟩
    ·
     replace hm := bif_f hm hg232
     refine Rg_opg rfl rfl rfl (op_move (v := (Value.int .i64 to)) rfl ?_)
     refine Rg_opg rfl rfl rfl (op_lss rfl rfl ?_)
     refine Rg_op rfl (op_pick_f (v := (Value.bool (decide (to < 0)))) rfl rfl ?_)
     refine Rg_op rfl (op_move (v := (Value.bool (decide (to < 0)))) rfl ?_)
     refine Rg_case (fun hg233 => ?_) (fun hg233 => ?_)
     ·
      replace hm := bif_t hm hg233
      iterate 5 refine Rg_opx rfl (asB_ne rfl rfl) rfl ?_
      refine Rg_op rfl (op_pick_t (v := (Value.bool true)) rfl rfl ?_)
      refine Rg_nil ?_
      exact hK10 _ _ ⟨true, _, rfl, ⟨(by repeat (first | with_reducible exact Out.refl _ _ | refine Out.upd ?_ rfl | refine Out.updL ?_ rfl | refine Out.mix' ?_ rfl | exact Out.refl _ _)), rfl, rfl, trivial⟩, ch221, hs227, hm⟩
     ·
      replace hm := bif_f hm hg233
      refine Rg_opg rfl rfl rfl (op_move (v := (Value.int .i64 to)) rfl ?_)
      refine Rg_opg rfl rfl rfl (op_fieldAddr ty31 rfl ty24 (by decide) rfl (rfl : _ = (⟨_, 2, none⟩ : Addr)) ?_)
      refine Rg_opg rfl rfl rfl (op_load (cs := [(Value.slice a_a_volumes a.volumes.length c_a_volumes), (Value.slice a_a_sectors a.sectors.length c_a_sectors), (Value.slice a_a_configs a.configs.length c_a_configs), (Value.slice a_a_segments a.segments.length c_a_segments), (Value.slice a_a_routes a.routes.length c_a_routes), (Value.slice a_a_airports a.airports.length c_a_airports), (Value.slice a_a_classes a.classes.length c_a_classes), (Value.slice a_a_rules a.rules.length c_a_rules)]) (i := 0) ty24 hs227 rfl rfl rfl ?_)
      refine Rg_opg rfl rfl rfl (op_len Try.underlying24 rfl ?_)
      refine Rg_opg rfl rfl rfl (op_geq rfl rfl ?_)
      refine Rg_op rfl (op_pick_f (v := (Value.bool (decide ((a.configs.length : Int) ≤ to)))) rfl rfl ?_)
      refine Rg_nil ?_
      exact hK10 _ _ ⟨(decide ((a.configs.length : Int) ≤ to)), _, rfl, ⟨(by repeat (first | with_reducible exact Out.refl _ _ | refine Out.upd ?_ rfl | refine Out.updL ?_ rfl | refine Out.mix' ?_ rfl | exact Out.refl _ _)), rfl, rfl, trivial⟩, ch221, hs227, hm⟩

end Go.Fx



set_option linter.unusedVariables false
set_option linter.unusedSimpArgs false
set_option maxRecDepth 100000
set_option maxHeartbeats 0
namespace Go.Fx
open Go Go.RowKit Go.Proofs
def m25_overflightref10_Stuck_B1 (a : XAirspace) (from_1 : Int) (sf19 : Int → Option (Int × Int × Bool × Int)) (distances_1 : (List Int)) (sf46 : Int → Option (Int × Int × Bool × Int)) (to_1 : Int) : Option (Int × Int × Bool × Int) :=
 bif (decide (to_1 < (a.configs.length : Int))) then
  ck ((0 : Int) ≤ to_1 ∧ to_1 < (distances_1.length : Int)) <|
  bif (decide ((distances_1.getD to_1.toNat default) = 33)) then
   some (from_1, to_1, true, 0)
  else
   sf46 (IntKind.wrap .i64 (to_1 + 1))
 else
  sf19 (IntKind.wrap .i64 (from_1 + 1))

def m25_overflightref10_Stuck_B0 (a : XAirspace) (sf19 : Int → Option (Int × Int × Bool × Int)) (from_1 : Int) : Option (Int × Int × Bool × Int) :=
 bif (decide (from_1 < (a.configs.length : Int))) then
  (m35_overflightref10_distances a from_1).bind fun distances_1 =>
  loop1 (m25_overflightref10_Stuck_B1 a from_1 sf19 distances_1) (((a.configs.length : Int) - 0).toNat + 1) 0
 else
  some (0, 0, false, 0)

def m25_overflightref10_Stuck (a : XAirspace) : Option (Int × Int × Bool × Int) :=
 (m16_overflightref10_Check a).bind fun check_1 =>
 bif (decide (check_1 ≠ 0)) then
  some (0, 0, false, 100)
 else
  loop1 (m25_overflightref10_Stuck_B0 a) (((a.configs.length : Int) - 0).toNat + 1) 0

theorem c25_overflightref10_Stuck {w : World} {O : List Nat} {a : XAirspace} {a_a_volumes : Option Addr} {c_a_volumes : Nat} {a_a_sectors : Option Addr} {c_a_sectors : Nat} {a_a_configs : Option Addr} {c_a_configs : Nat} {a_a_segments : Option Addr} {c_a_segments : Nat} {a_a_routes : Option Addr} {c_a_routes : Nat} {a_a_airports : Option Addr} {c_a_airports : Nat} {a_a_classes : Option Addr} {c_a_classes : Nat} {a_a_rules : Option Addr} {c_a_rules : Nat} (hO : ∀ k ∈ O, k < w.heap.size) (f_a_volumes : SlR rXVolume w O a_a_volumes c_a_volumes a.volumes) (f_a_sectors : SlR rXSector w O a_a_sectors c_a_sectors a.sectors) (f_a_configs : SlR rXConfig w O a_a_configs c_a_configs a.configs) (f_a_segments : SlR rXSegment w O a_a_segments c_a_segments a.segments) (f_a_routes : SlR rXRoute w O a_a_routes c_a_routes a.routes) (f_a_airports : SlR rXAirport w O a_a_airports c_a_airports a.airports) (f_a_classes : SlR rXClass w O a_a_classes c_a_classes a.classes) (f_a_rules : SlR rXRule w O a_a_rules c_a_rules a.rules) {x : Int × Int × Bool × Int} (hm : m25_overflightref10_Stuck a = some x) :
  Ok Try.prog 25 [(Value.agg [(Value.slice a_a_volumes a.volumes.length c_a_volumes), (Value.slice a_a_sectors a.sectors.length c_a_sectors), (Value.slice a_a_configs a.configs.length c_a_configs), (Value.slice a_a_segments a.segments.length c_a_segments), (Value.slice a_a_routes a.routes.length c_a_routes), (Value.slice a_a_airports a.airports.length c_a_airports), (Value.slice a_a_classes a.classes.length c_a_classes), (Value.slice a_a_rules a.rules.length c_a_rules)].toArray)] w O (vT4 (vI .i64) (vI .i64) vB (vI .i64)) x := by
 unfold m25_overflightref10_Stuck at hm
 refine Fn_of_Wp (n := 36) (xs := [.tmp 2, .tmp 3, .tmp 4, .tmp 5]) Try.func25 rfl Try.ntmps25 Try.results25 rfl ?_
 have hs := St.start hO
 refine Wp_seq ?_
 refine Wp_region ?_
 refine Rg_op rfl (op_box (cs := [(Value.slice a_a_volumes a.volumes.length c_a_volumes), (Value.slice a_a_sectors a.sectors.length c_a_sectors), (Value.slice a_a_configs a.configs.length c_a_configs), (Value.slice a_a_segments a.segments.length c_a_segments), (Value.slice a_a_routes a.routes.length c_a_routes), (Value.slice a_a_airports a.airports.length c_a_airports), (Value.slice a_a_classes a.classes.length c_a_classes), (Value.slice a_a_rules a.rules.length c_a_rules)]) hs rfl rfl ?_)
 intro b1 w2 _ p3 hs4
 replace f_a_volumes := f_a_volumes.step p3; replace f_a_sectors := f_a_sectors.step p3; replace f_a_configs := f_a_configs.step p3; replace f_a_segments := f_a_segments.step p3; replace f_a_routes := f_a_routes.step p3; replace f_a_airports := f_a_airports.step p3; replace f_a_classes := f_a_classes.step p3; replace f_a_rules := f_a_rules.step p3; clear p3
 refine Rg_op rfl (op_assign (v := (Value.int .i64 0)) rfl ?_)
 refine Rg_op rfl (op_assign (v := (Value.int .i64 0)) rfl ?_)
 refine Rg_op rfl (op_assign (v := (Value.bool false)) rfl ?_)
 refine Rg_op rfl (op_assign (v := (Value.int .i64 0)) rfl ?_)
 refine Rg_nil ?_
 refine Wp_seq ?_
 refine Wp_seq ?_
 refine Wp_region ?_
 refine Rg_op rfl (op_loadA (cs := [(Value.slice a_a_volumes a.volumes.length c_a_volumes), (Value.slice a_a_sectors a.sectors.length c_a_sectors), (Value.slice a_a_configs a.configs.length c_a_configs), (Value.slice a_a_segments a.segments.length c_a_segments), (Value.slice a_a_routes a.routes.length c_a_routes), (Value.slice a_a_airports a.airports.length c_a_airports), (Value.slice a_a_classes a.classes.length c_a_classes), (Value.slice a_a_rules a.rules.length c_a_rules)]) (vs := [(Value.slice a_a_volumes a.volumes.length c_a_volumes), (Value.slice a_a_sectors a.sectors.length c_a_sectors), (Value.slice a_a_configs a.configs.length c_a_configs), (Value.slice a_a_segments a.segments.length c_a_segments), (Value.slice a_a_routes a.routes.length c_a_routes), (Value.slice a_a_airports a.airports.length c_a_airports), (Value.slice a_a_classes a.classes.length c_a_classes), (Value.slice a_a_rules a.rules.length c_a_rules)]) (i := 0) ty31 hs4 rfl rfl rfl rfl ?_)
 replace hm := bd hm; obtain ⟨check_1, hv6, hm⟩ := hm
 refine Rg_op rfl (op_call Try.call16 (c16_overflightref10_Check (a := a) hs4.ltw f_a_volumes f_a_sectors f_a_configs f_a_segments f_a_routes f_a_airports f_a_classes f_a_rules hv6) rfl ?_)
 rintro v7 w8 ⟨hx9, h10⟩
 have hs11 := hs4.call hx9
 have p12 := Step.ext (O := ks [(some b1, Obj.cells [(Value.slice a_a_volumes a.volumes.length c_a_volumes), (Value.slice a_a_sectors a.sectors.length c_a_sectors), (Value.slice a_a_configs a.configs.length c_a_configs), (Value.slice a_a_segments a.segments.length c_a_segments), (Value.slice a_a_routes a.routes.length c_a_routes), (Value.slice a_a_airports a.airports.length c_a_airports), (Value.slice a_a_classes a.classes.length c_a_classes), (Value.slice a_a_rules a.rules.length c_a_rules)].toArray 31)] O) hx9
 clear hx9
 replace f_a_volumes := f_a_volumes.step p12; replace f_a_sectors := f_a_sectors.step p12; replace f_a_configs := f_a_configs.step p12; replace f_a_segments := f_a_segments.step p12; replace f_a_routes := f_a_routes.step p12; replace f_a_airports := f_a_airports.step p12; replace f_a_classes := f_a_classes.step p12; replace f_a_rules := f_a_rules.step p12; clear p12 hs4
 obtain ⟨rfl, r_y13⟩ := h10
 refine Rg_op rfl (op_neq rfl rfl ?_)
 refine Rg_nil ?_
 refine Wp_cond rfl (fun hc14 => ?_) (fun hc14 => ?_)
 ·
  replace hm := bif_t hm hc14
  refine Wp_seq ?_
  obtain ⟨hs15, p16⟩ := hs11.sub (bs' := []) (.cons _ List.Sublist.slnil)
  clear f_a_volumes f_a_sectors f_a_configs f_a_segments f_a_routes f_a_airports f_a_classes f_a_rules
  clear p16 hs11
  refine Wp_region ?_
  refine Rg_op rfl (op_assign (v := (Value.int .i64 0)) rfl ?_)
  refine Rg_op rfl (op_assign (v := (Value.int .i64 0)) rfl ?_)
  refine Rg_op rfl (op_assign (v := (Value.bool false)) rfl ?_)
  refine Rg_op rfl (op_assign (v := (Value.int .i64 100)) rfl ?_)
  refine Rg_nil ?_
  refine Wp_ret ?_
  have hz := step_all hs15
  refine ⟨_, (show Closes [] _ _ from rfl), [(Value.int .i64 0), (Value.int .i64 0), (Value.bool false), (Value.int .i64 100)], ⟨rfl, rfl, rfl, rfl, trivial⟩, hs15.ext, ?_⟩
  exact Vr.eq (a := (vT4 (vI .i64) (vI .i64) vB (vI .i64))) (x := (0, 0, false, 100)) (mkT4 ⟨rfl, (show InK .i64 0 from by decide)⟩ ⟨rfl, (show InK .i64 0 from by decide)⟩ rfl ⟨rfl, (show InK .i64 100 from by decide)⟩) (Option.some.inj hm)
 ·
  replace hm := bif_f hm hc14
  refine Wp_skip ?_
  refine Wp_seq ?_
  refine Wp_seq ?_
  refine Wp_region ?_
  refine Rg_op rfl (op_assign (v := (Value.int .i64 0)) rfl ?_)
  refine Rg_nil ?_
  refine Wp_block ?_
  refine Wp_reset [] [(1, (Value.pointer (some ⟨b1, 0, none⟩))), (6, (Value.int .i64 0))] rfl ⟨rfl, rfl, trivial⟩ fun ξ18 => ?_
  refine Wp_loopM [2, 3, 4, 5, 6, 7, 8, 12, 13, 14, 15, 16, 17, 18, 19, 20, 21, 22, 23, 24, 25, 26, 27, 28, 29, 30, 31, 32, 33, 34, 35] (fun m fr w' => ∃ (from_1 : Int) (Ebs : Ents), Ebs = [(some b1, Obj.cells [(Value.slice a_a_volumes a.volumes.length c_a_volumes), (Value.slice a_a_sectors a.sectors.length c_a_sectors), (Value.slice a_a_configs a.configs.length c_a_configs), (Value.slice a_a_segments a.segments.length c_a_segments), (Value.slice a_a_routes a.routes.length c_a_routes), (Value.slice a_a_airports a.airports.length c_a_airports), (Value.slice a_a_classes a.classes.length c_a_classes), (Value.slice a_a_rules a.rules.length c_a_rules)].toArray 31)] ∧ fr [] [(6, (Value.int .i64 from_1))] ∧ Step (ks [(some b1, Obj.cells [(Value.slice a_a_volumes a.volumes.length c_a_volumes), (Value.slice a_a_sectors a.sectors.length c_a_sectors), (Value.slice a_a_configs a.configs.length c_a_configs), (Value.slice a_a_segments a.segments.length c_a_segments), (Value.slice a_a_routes a.routes.length c_a_routes), (Value.slice a_a_airports a.airports.length c_a_airports), (Value.slice a_a_classes a.classes.length c_a_classes), (Value.slice a_a_rules a.rules.length c_a_rules)].toArray 31)] O) w8 (ks Ebs O) w' ∧ St ⟨w, [], []⟩ O w' Ebs ∧ InK .i64 from_1 ∧ loop1 (m25_overflightref10_Stuck_B0 a) m from_1 = some x) (((a.configs.length : Int) - 0).toNat + 1) ⟨0, _, rfl, ⟨Out.refl _ _, rfl, rfl, trivial⟩, Step.refl _ _, hs11, (show InK .i64 0 from by decide), hm⟩ ?_ ?_
  · rintro _ _ ⟨_, _, _, _, _, _, _, hm⟩; exact loop1_z hm
  ·
   rintro m22 K21 hK21 ρ27 w23 ⟨from_1, Ebs, hEbs, hfr26, hst25, hs24, r_y17, hm⟩
   obtain ⟨sf19, hsf20, hm⟩ := loop1_s hm; unfold m25_overflightref10_Stuck_B0 at hm
   subst hEbs; rw [hfr26.eq]; clear hfr26
   replace f_a_volumes := f_a_volumes.step hst25; replace f_a_sectors := f_a_sectors.step hst25; replace f_a_configs := f_a_configs.step hst25; replace f_a_segments := f_a_segments.step hst25; replace f_a_routes := f_a_routes.step hst25; replace f_a_airports := f_a_airports.step hst25; replace f_a_classes := f_a_classes.step hst25; replace f_a_rules := f_a_rules.step hst25
   have ch28 := hst25
   refine Wp_seq ?_
   refine Wp_seq ?_
   refine Wp_region ?_
   refine Rg_op rfl (op_move (v := (Value.int .i64 from_1)) rfl ?_)
   refine Rg_op rfl (op_fieldAddr ty31 rfl ty24 (by decide) rfl (rfl : _ = (⟨_, 2, none⟩ : Addr)) ?_)
   refine Rg_op rfl (op_load (cs := [(Value.slice a_a_volumes a.volumes.length c_a_volumes), (Value.slice a_a_sectors a.sectors.length c_a_sectors), (Value.slice a_a_configs a.configs.length c_a_configs), (Value.slice a_a_segments a.segments.length c_a_segments), (Value.slice a_a_routes a.routes.length c_a_routes), (Value.slice a_a_airports a.airports.length c_a_airports), (Value.slice a_a_classes a.classes.length c_a_classes), (Value.slice a_a_rules a.rules.length c_a_rules)]) (i := 0) ty24 hs24 rfl rfl rfl ?_)
   refine Rg_op rfl (op_len Try.underlying24 rfl ?_)
   refine Rg_op rfl (op_lss rfl rfl ?_)
   refine Rg_nil ?_
   refine Wp_cond rfl (fun hc29 => ?_) (fun hc29 => ?_)
   ·
    replace hm := bif_t hm hc29
    refine Wp_skip ?_
    refine Wp_seq ?_
    refine Wp_block ?_
    refine Wp_seq ?_
    refine Wp_region ?_
    refine Rg_op rfl (op_loadA (cs := [(Value.slice a_a_volumes a.volumes.length c_a_volumes), (Value.slice a_a_sectors a.sectors.length c_a_sectors), (Value.slice a_a_configs a.configs.length c_a_configs), (Value.slice a_a_segments a.segments.length c_a_segments), (Value.slice a_a_routes a.routes.length c_a_routes), (Value.slice a_a_airports a.airports.length c_a_airports), (Value.slice a_a_classes a.classes.length c_a_classes), (Value.slice a_a_rules a.rules.length c_a_rules)]) (vs := [(Value.slice a_a_volumes a.volumes.length c_a_volumes), (Value.slice a_a_sectors a.sectors.length c_a_sectors), (Value.slice a_a_configs a.configs.length c_a_configs), (Value.slice a_a_segments a.segments.length c_a_segments), (Value.slice a_a_routes a.routes.length c_a_routes), (Value.slice a_a_airports a.airports.length c_a_airports), (Value.slice a_a_classes a.classes.length c_a_classes), (Value.slice a_a_rules a.rules.length c_a_rules)]) (i := 0) ty31 hs24 rfl rfl rfl rfl ?_)
    refine Rg_op rfl (op_move (v := (Value.int .i64 from_1)) rfl ?_)
    replace hm := bd hm; obtain ⟨distances_1, hv30, hm⟩ := hm
    refine Rg_op rfl (op_call Try.call35 (g35_overflightref10_distances (a := a) (to := from_1) hs24.ltw f_a_volumes f_a_sectors f_a_configs f_a_segments f_a_routes f_a_airports f_a_classes f_a_rules r_y17 hv30) rfl ?_)
    rintro _ w32 ⟨hx33, a36, c37, k38, o39, rfl, hk40, f41⟩
    obtain ⟨hs35, p42⟩ := hs24.callG (o := o39) hx33 hk40
    rw [← ks_cons (o := o39)] at f41
    replace f_a_volumes := f_a_volumes.step p42; replace f_a_sectors := f_a_sectors.step p42; replace f_a_configs := f_a_configs.step p42; replace f_a_segments := f_a_segments.step p42; replace f_a_routes := f_a_routes.step p42; replace f_a_airports := f_a_airports.step p42; replace f_a_classes := f_a_classes.step p42; replace f_a_rules := f_a_rules.step p42; replace ch28 := ch28.trans p42; clear p42 hs24
    refine Rg_op rfl (op_assign (v := (Value.slice a36 distances_1.length c37)) rfl ?_)
    refine Rg_nil ?_
    refine Wp_seq ?_
    refine Wp_region ?_
    refine Rg_op rfl (op_assign (v := (Value.int .i64 0)) rfl ?_)
    refine Rg_nil ?_
    refine Wp_block ?_
    refine Wp_reset2 [2, 3, 4, 5, 6, 7, 8, 12, 13, 14, 15, 16, 17, 18, 19, 20, 21, 22, 23, 24, 25, 26, 27, 28, 29, 30, 31, 32, 33, 34, 35] [] (updL ⟨ξ18, []⟩ [(1, (Value.pointer (some ⟨b1, 0, none⟩))), (6, (Value.int .i64 0))]) [(6, (Value.int .i64 from_1)), (7, (Value.slice a36 distances_1.length c37)), (8, (Value.int .i64 0))] (by repeat (first | with_reducible exact Out.refl _ _ | refine Out.upd ?_ rfl | refine Out.updL ?_ rfl | refine Out.mix' ?_ rfl | exact Out.refl _ _)) rfl ⟨rfl, rfl, rfl, trivial⟩ fun ξ45 => ?_
    refine Wp_loopM [2, 3, 4, 5, 8, 22, 23, 24, 25, 26, 27, 28, 29, 30, 31, 32, 33, 34, 35] (fun m fr w' => ∃ (to_1 : Int) (Ebs : Ents), Ebs = [(k38, o39), (some b1, Obj.cells [(Value.slice a_a_volumes a.volumes.length c_a_volumes), (Value.slice a_a_sectors a.sectors.length c_a_sectors), (Value.slice a_a_configs a.configs.length c_a_configs), (Value.slice a_a_segments a.segments.length c_a_segments), (Value.slice a_a_routes a.routes.length c_a_routes), (Value.slice a_a_airports a.airports.length c_a_airports), (Value.slice a_a_classes a.classes.length c_a_classes), (Value.slice a_a_rules a.rules.length c_a_rules)].toArray 31)] ∧ fr [] [(8, (Value.int .i64 to_1))] ∧ Step (ks [(k38, o39), (some b1, Obj.cells [(Value.slice a_a_volumes a.volumes.length c_a_volumes), (Value.slice a_a_sectors a.sectors.length c_a_sectors), (Value.slice a_a_configs a.configs.length c_a_configs), (Value.slice a_a_segments a.segments.length c_a_segments), (Value.slice a_a_routes a.routes.length c_a_routes), (Value.slice a_a_airports a.airports.length c_a_airports), (Value.slice a_a_classes a.classes.length c_a_classes), (Value.slice a_a_rules a.rules.length c_a_rules)].toArray 31)] O) w32 (ks Ebs O) w' ∧ St ⟨w, [], []⟩ O w' Ebs ∧ InK .i64 to_1 ∧ loop1 (m25_overflightref10_Stuck_B1 a from_1 sf19 distances_1) m to_1 = some x) (((a.configs.length : Int) - 0).toNat + 1) ⟨0, _, rfl, ⟨Out.refl _ _, rfl, rfl, trivial⟩, Step.refl _ _, hs35, (show InK .i64 0 from by decide), hm⟩ ?_ ?_
    · rintro _ _ ⟨_, _, _, _, _, _, _, hm⟩; exact loop1_z hm
    ·
     rintro m49 K48 hK48 ρ54 w50 ⟨to_1, Ebs, hEbs, hfr53, hst52, hs51, r_y44, hm⟩
     obtain ⟨sf46, hsf47, hm⟩ := loop1_s hm; unfold m25_overflightref10_Stuck_B1 at hm
     subst hEbs; rw [hfr53.eq]; clear hfr53
     replace f_a_volumes := f_a_volumes.step hst52; replace f_a_sectors := f_a_sectors.step hst52; replace f_a_configs := f_a_configs.step hst52; replace f_a_segments := f_a_segments.step hst52; replace f_a_routes := f_a_routes.step hst52; replace f_a_airports := f_a_airports.step hst52; replace f_a_classes := f_a_classes.step hst52; replace f_a_rules := f_a_rules.step hst52; replace f41 := f41.step hst52; replace ch28 := ch28.trans hst52
     have ch55 := hst52
     refine Wp_seq ?_
     refine Wp_seq ?_
     refine Wp_region ?_
     refine Rg_op rfl (op_move (v := (Value.int .i64 to_1)) rfl ?_)
     refine Rg_op rfl (op_fieldAddr ty31 rfl ty24 (by decide) rfl (rfl : _ = (⟨_, 2, none⟩ : Addr)) ?_)
     refine Rg_op rfl (op_load (cs := [(Value.slice a_a_volumes a.volumes.length c_a_volumes), (Value.slice a_a_sectors a.sectors.length c_a_sectors), (Value.slice a_a_configs a.configs.length c_a_configs), (Value.slice a_a_segments a.segments.length c_a_segments), (Value.slice a_a_routes a.routes.length c_a_routes), (Value.slice a_a_airports a.airports.length c_a_airports), (Value.slice a_a_classes a.classes.length c_a_classes), (Value.slice a_a_rules a.rules.length c_a_rules)]) (i := 1) ty24 hs51 rfl rfl rfl ?_)
     refine Rg_op rfl (op_len Try.underlying24 rfl ?_)
     refine Rg_op rfl (op_lss rfl rfl ?_)
     refine Rg_nil ?_
     refine Wp_cond rfl (fun hc56 => ?_) (fun hc56 => ?_)
     ·
      replace hm := bif_t hm hc56
      refine Wp_skip ?_
      refine Wp_seq ?_
      refine Wp_block ?_
      refine Wp_seq ?_
      refine Wp_region ?_
      refine Rg_op rfl (op_move (v := (Value.slice a36 distances_1.length c37)) rfl ?_)
      refine Rg_op rfl (op_move (v := (Value.int .i64 to_1)) rfl ?_)
      replace hm := ck_some hm; obtain ⟨hc57, hm⟩ := hm
      refine Rg_op rfl (op_indexAddrG ty39 ty3 rfl rfl f41 hc57 ?_)
      rintro b58 rfl rfl
      refine Rg_op rfl (op_loadG (i := 0) ty3 rfl hs51 rfl rfl f41 hc57 ?_)
      intro v59 h60
      obtain ⟨rfl, r_y61⟩ := un_int h60
      refine Rg_op rfl (op_eql rfl rfl ?_)
      refine Rg_nil ?_
      refine Wp_cond rfl (fun hc62 => ?_) (fun hc62 => ?_)
      ·
       replace hm := bif_t hm hc62
       refine Wp_seq ?_
       clear f41
       refine Wp_region ?_
       refine Rg_op rfl (op_move (v := (Value.int .i64 from_1)) rfl ?_)
       refine Rg_op rfl (op_move (v := (Value.int .i64 to_1)) rfl ?_)
       refine Rg_op rfl (op_assign (v := (Value.int .i64 from_1)) rfl ?_)
       refine Rg_op rfl (op_assign (v := (Value.int .i64 to_1)) rfl ?_)
       refine Rg_op rfl (op_assign (v := (Value.bool true)) rfl ?_)
       refine Rg_op rfl (op_assign (v := (Value.int .i64 0)) rfl ?_)
       refine Rg_nil ?_
       refine Wp_ret ?_
       have hz := step_all hs51
       replace f_a_volumes := f_a_volumes.step hz; replace f_a_sectors := f_a_sectors.step hz; replace f_a_configs := f_a_configs.step hz; replace f_a_segments := f_a_segments.step hz; replace f_a_routes := f_a_routes.step hz; replace f_a_airports := f_a_airports.step hz; replace f_a_classes := f_a_classes.step hz; replace f_a_rules := f_a_rules.step hz
       refine ⟨_, (show Closes [] _ _ from rfl), [(Value.int .i64 from_1), (Value.int .i64 to_1), (Value.bool true), (Value.int .i64 0)], ⟨rfl, rfl, rfl, rfl, trivial⟩, hs51.ext, ?_⟩
       exact Vr.eq (a := (vT4 (vI .i64) (vI .i64) vB (vI .i64))) (x := (from_1, to_1, true, 0)) (mkT4 ⟨rfl, r_y17⟩ ⟨rfl, r_y44⟩ rfl ⟨rfl, (show InK .i64 0 from by decide)⟩) (Option.some.inj hm)
      ·
       replace hm := bif_f hm hc62
       refine Wp_skip ?_
       refine Wp_region ?_
       refine Rg_op rfl (op_move (v := (Value.int .i64 to_1)) rfl ?_)
       refine Rg_op rfl (op_addw rfl rfl ?_)
       refine Rg_op rfl (op_assign (v := (Value.int .i64 (IntKind.wrap .i64 (to_1 + 1)))) rfl ?_)
       refine Rg_nil ?_
       exact hK48 _ _ ⟨(IntKind.wrap .i64 (to_1 + 1)), _, rfl, ⟨(by repeat (first | with_reducible exact Out.refl _ _ | refine Out.upd ?_ rfl | refine Out.updL ?_ rfl | refine Out.mix' ?_ rfl | exact Out.refl _ _)), rfl, rfl, trivial⟩, ch55, hs51, (inK_wrap .i64 _), jnE1 hsf47 hm⟩
     ·
      replace hm := bif_f hm hc56
      refine Wp_exit ?_
      clear f41
      refine Wp_region ?_
      refine Rg_op rfl (op_move (v := (Value.int .i64 from_1)) rfl ?_)
      refine Rg_op rfl (op_addw rfl rfl ?_)
      refine Rg_op rfl (op_assign (v := (Value.int .i64 (IntKind.wrap .i64 (from_1 + 1)))) rfl ?_)
      refine Rg_nil ?_
      have hs63 := hs51.drop 0
      replace f_a_volumes := f_a_volumes.step (hs51.dropS 0)
      replace f_a_sectors := f_a_sectors.step (hs51.dropS 0)
      replace f_a_configs := f_a_configs.step (hs51.dropS 0)
      replace f_a_segments := f_a_segments.step (hs51.dropS 0)
      replace f_a_routes := f_a_routes.step (hs51.dropS 0)
      replace f_a_airports := f_a_airports.step (hs51.dropS 0)
      replace f_a_classes := f_a_classes.step (hs51.dropS 0)
      replace f_a_rules := f_a_rules.step (hs51.dropS 0)
      replace ch28 := ch28.trans (hs51.dropS 0)
      replace ch55 := ch55.trans (hs51.dropS 0); clear hs51
      exact hK21 _ _ ⟨(IntKind.wrap .i64 (from_1 + 1)), _, rfl, ⟨(by repeat (first | with_reducible exact Out.refl _ _ | refine Out.upd ?_ rfl | refine Out.updL ?_ rfl | refine Out.mix' ?_ rfl | exact Out.refl _ _)), rfl, rfl, trivial⟩, ch28, hs63, (inK_wrap .i64 _), jnE1 hsf20 hm⟩
   ·
    replace hm := bif_f hm hc29
    refine Wp_exit ?_
    refine Wp_seq ?_
    obtain ⟨hs64, p65⟩ := hs24.sub (bs' := []) (.cons _ List.Sublist.slnil)
    clear f_a_volumes f_a_sectors f_a_configs f_a_segments f_a_routes f_a_airports f_a_classes f_a_rules
    replace ch28 := ch28.trans p65; clear p65 hs24
    refine Wp_region ?_
    refine Rg_op rfl (op_assign (v := (Value.int .i64 0)) rfl ?_)
    refine Rg_op rfl (op_assign (v := (Value.int .i64 0)) rfl ?_)
    refine Rg_op rfl (op_assign (v := (Value.bool false)) rfl ?_)
    refine Rg_op rfl (op_assign (v := (Value.int .i64 0)) rfl ?_)
    refine Rg_nil ?_
    refine Wp_ret ?_
    have hz := step_all hs64
    refine ⟨_, (show Closes [] _ _ from rfl), [(Value.int .i64 0), (Value.int .i64 0), (Value.bool false), (Value.int .i64 0)], ⟨rfl, rfl, rfl, rfl, trivial⟩, hs64.ext, ?_⟩
    exact Vr.eq (a := (vT4 (vI .i64) (vI .i64) vB (vI .i64))) (x := (0, 0, false, 0)) (mkT4 ⟨rfl, (show InK .i64 0 from by decide)⟩ ⟨rfl, (show InK .i64 0 from by decide)⟩ rfl ⟨rfl, (show InK .i64 0 from by decide)⟩) (Option.some.inj hm)

end Go.Fx


