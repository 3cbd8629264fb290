/- Check and Sector of chapter 10 match the specification, for every airspace, configuration and volume. -/
import Derived.Test.YtolafciahogceaaCheck4
import Derived.Laws.Bits64b
import Derived.Test.YtolafciahogceaaRows
import Derived.WalkKit
import Derived.ShutString
set_option linter.unusedVariables false
set_option linter.unusedSimpArgs false
set_option maxRecDepth 100000
set_option maxHeartbeats 0
namespace Go.Fx
open Go Go.RowKit Go.Proofs
def m16_overflightref10_Check_B1 (a : XAirspace) (sf192 : Int → Option Int) (i_2 : Int) : Option Int :=
 bif (decide (i_2 < (a.configs.length : Int))) then
  ck ((0 : Int) ≤ i_2 ∧ i_2 < (a.configs.length : Int)) <|
  (m33_overflightref10_divides a (a.configs.getD i_2.toNat default)).bind fun divides_1 =>
  bif (!divides_1) then
   some 100
  else
   sf192 (IntKind.wrap .i64 (i_2 + 1))
 else
  some 0

def m16_overflightref10_Check_B0 (a : XAirspace) (sf21 : Int → Option Int) (i_1 : Int) : Option Int :=
 bif (decide (i_1 < (a.sectors.length : Int))) then
  jn (fun (v_2 : Bool) =>
   bif v_2 then
    some 100
   else
    sf21 (IntKind.wrap .i64 (i_1 + 1)))
  (fun k34 =>
   ck ((0 : Int) ≤ i_1 ∧ i_1 < (a.sectors.length : Int)) <|
   bif (decide ((((a.sectors.getD i_1.toNat default).volumes).length : Int) = 0)) then
    k34 true
   else
    ck ((0 : Int) ≤ i_1 ∧ i_1 < (a.sectors.length : Int)) <|
    (m32_overflightref10_indices ((a.sectors.getD i_1.toNat default).volumes) (a.volumes.length : Int)).bind fun indices_1 =>
    k34 (!indices_1))
 else
  loop1 (m16_overflightref10_Check_B1 a) (((a.configs.length : Int) - 0).toNat + 1) 0

def m16_overflightref10_Check (a : XAirspace) : Option Int :=
 jn (fun (v_1 : Bool) =>
  bif v_1 then
   some 100
  else
   loop1 (m16_overflightref10_Check_B0 a) (((a.sectors.length : Int) - 0).toNat + 1) 0)
 (fun k8 =>
  bif (decide ((a.volumes.length : Int) < 1)) then
   k8 true
  else
   bif (decide (64 < (a.volumes.length : Int))) then
    k8 true
   else
    bif (decide (64 < (a.sectors.length : Int))) then
     k8 true
    else
     bif (decide ((a.configs.length : Int) < 1)) then
      k8 true
     else
      k8 (decide (32 < (a.configs.length : Int))))

theorem c16_overflightref10_Check {w : World} {O : List Nat} {a : XAirspace} {a_a_volumes : Option Addr} {c_a_volumes : Nat} {a_a_sectors : Option Addr} {c_a_sectors : Nat} {a_a_configs : Option Addr} {c_a_configs : Nat} {a_a_segments : Option Addr} {c_a_segments : Nat} {a_a_routes : Option Addr} {c_a_routes : Nat} {a_a_airports : Option Addr} {c_a_airports : Nat} {a_a_classes : Option Addr} {c_a_classes : Nat} {a_a_rules : Option Addr} {c_a_rules : Nat} (hO : ∀ k ∈ O, k < w.heap.size) (f_a_volumes : SlR rXVolume w O a_a_volumes c_a_volumes a.volumes) (f_a_sectors : SlR rXSector w O a_a_sectors c_a_sectors a.sectors) (f_a_configs : SlR rXConfig w O a_a_configs c_a_configs a.configs) (f_a_segments : SlR rXSegment w O a_a_segments c_a_segments a.segments) (f_a_routes : SlR rXRoute w O a_a_routes c_a_routes a.routes) (f_a_airports : SlR rXAirport w O a_a_airports c_a_airports a.airports) (f_a_classes : SlR rXClass w O a_a_classes c_a_classes a.classes) (f_a_rules : SlR rXRule w O a_a_rules c_a_rules a.rules) {x : Int} (hm : m16_overflightref10_Check a = some x) :
  Ok Try.prog 16 [(Value.agg [(Value.slice a_a_volumes a.volumes.length c_a_volumes), (Value.slice a_a_sectors a.sectors.length c_a_sectors), (Value.slice a_a_configs a.configs.length c_a_configs), (Value.slice a_a_segments a.segments.length c_a_segments), (Value.slice a_a_routes a.routes.length c_a_routes), (Value.slice a_a_airports a.airports.length c_a_airports), (Value.slice a_a_classes a.classes.length c_a_classes), (Value.slice a_a_rules a.rules.length c_a_rules)].toArray)] w O (vI .i64) x := by
 unfold m16_overflightref10_Check at hm
 refine Fn_of_Wp (n := 76) (xs := [.tmp 2]) Try.func16 rfl Try.ntmps16 Try.results16 rfl ?_
 have hs := St.start hO
 refine Wp_seq ?_
 refine Wp_region ?_
 refine Rg_op rfl (op_box (cs := [(Value.slice a_a_volumes a.volumes.length c_a_volumes), (Value.slice a_a_sectors a.sectors.length c_a_sectors), (Value.slice a_a_configs a.configs.length c_a_configs), (Value.slice a_a_segments a.segments.length c_a_segments), (Value.slice a_a_routes a.routes.length c_a_routes), (Value.slice a_a_airports a.airports.length c_a_airports), (Value.slice a_a_classes a.classes.length c_a_classes), (Value.slice a_a_rules a.rules.length c_a_rules)]) hs rfl rfl ?_)
 intro b1 w2 _ p3 hs4
 replace f_a_volumes := f_a_volumes.step p3
 replace f_a_sectors := f_a_sectors.step p3
 replace f_a_configs := f_a_configs.step p3
 replace f_a_segments := f_a_segments.step p3
 replace f_a_routes := f_a_routes.step p3
 replace f_a_airports := f_a_airports.step p3
 replace f_a_classes := f_a_classes.step p3
 replace f_a_rules := f_a_rules.step p3
 clear p3
 refine Rg_op rfl (op_assign (v := (Value.int .i64 0)) rfl ?_)
 refine Rg_nil ?_
 refine Wp_seq ?_
 refine Wp_reset [] [(1, (Value.pointer (some ⟨b1, 0, none⟩)))] rfl ⟨rfl, trivial⟩ fun ξ6 => ?_
 replace hm := jn_elim hm; obtain ⟨k8, hk9, hm⟩ := hm
 refine Wp_seqJ [5, 6, 7, 8, 9, 10, 11, 12, 13, 14, 15, 16, 17, 18, 19, 20, 21, 22, 23, 24, 25, 26, 27, 28, 29, 30, 31, 32] (fun fr w' => ∃ (v_1 : Bool) (Ebs : Ents), Ebs = [(some b1, Obj.cells [(Value.slice a_a_volumes a.volumes.length c_a_volumes), (Value.slice a_a_sectors a.sectors.length c_a_sectors), (Value.slice a_a_configs a.configs.length c_a_configs), (Value.slice a_a_segments a.segments.length c_a_segments), (Value.slice a_a_routes a.routes.length c_a_routes), (Value.slice a_a_airports a.airports.length c_a_airports), (Value.slice a_a_classes a.classes.length c_a_classes), (Value.slice a_a_rules a.rules.length c_a_rules)].toArray 31)] ∧ fr [] [(32, (Value.bool v_1))] ∧ Step (ks [(some b1, Obj.cells [(Value.slice a_a_volumes a.volumes.length c_a_volumes), (Value.slice a_a_sectors a.sectors.length c_a_sectors), (Value.slice a_a_configs a.configs.length c_a_configs), (Value.slice a_a_segments a.segments.length c_a_segments), (Value.slice a_a_routes a.routes.length c_a_routes), (Value.slice a_a_airports a.airports.length c_a_airports), (Value.slice a_a_classes a.classes.length c_a_classes), (Value.slice a_a_rules a.rules.length c_a_rules)].toArray 31)] O) w2 (ks Ebs O) w' ∧ St ⟨w, [], []⟩ O w' Ebs ∧ k8 v_1 = some x) ?_ ?_
 ·
  rintro ρ15 w11 ⟨v_1, Ebs, hEbs, hfr14, hst13, hs12, hm⟩
  replace hm := jnE1 hk9 hm
  subst hEbs; rw [hfr14.eq]; clear hfr14
  replace f_a_volumes := f_a_volumes.step hst13
  replace f_a_sectors := f_a_sectors.step hst13
  replace f_a_configs := f_a_configs.step hst13
  replace f_a_segments := f_a_segments.step hst13
  replace f_a_routes := f_a_routes.step hst13
  replace f_a_airports := f_a_airports.step hst13
  replace f_a_classes := f_a_classes.step hst13
  replace f_a_rules := f_a_rules.step hst13
  clear hst13 hs4
  refine Wp_cond rfl (fun hc16 => ?_) (fun hc16 => ?_)
  ·
   replace hm := bif_t hm hc16
   refine Wp_seq ?_
   obtain ⟨hs17, p18⟩ := hs12.sub (bs' := []) (.cons _ List.Sublist.slnil)
   clear f_a_volumes f_a_sectors f_a_configs f_a_segments f_a_routes f_a_airports f_a_classes f_a_rules
   clear p18 hs12
   refine Wp_region ?_
   refine Rg_op rfl (op_assign (v := (Value.int .i64 100)) rfl ?_)
   refine Rg_nil ?_
   refine Wp_ret ?_
   have hz := step_all hs17
   refine ⟨_, (show Closes [] _ _ from rfl), [(Value.int .i64 100)], ⟨rfl, trivial⟩, hs17.ext, ?_⟩
   exact Vr.eq (a := (vI .i64)) (x := 100) ⟨rfl, (show InK .i64 100 from by decide)⟩ (Option.some.inj hm)
  ·
   replace hm := bif_f hm hc16
   refine Wp_skip ?_
   refine Wp_seq ?_
   refine Wp_seq ?_
   refine Wp_region ?_
   refine Rg_op rfl (op_assign (v := (Value.int .i64 0)) rfl ?_)
   refine Rg_nil ?_
   refine Wp_block ?_
   refine Wp_reset [] [(1, (Value.pointer (some ⟨b1, 0, none⟩))), (3, (Value.int .i64 0))] rfl ⟨rfl, rfl, trivial⟩ fun ξ20 => ?_
   refine Wp_loopM [2, 3, 33, 34, 35, 36, 37, 38, 39, 40, 41, 42, 43, 44, 45, 46, 47, 48, 49, 50, 51, 52, 53, 54, 55, 56, 57, 58, 59, 60] (fun m fr w' => ∃ (i_1 : Int) (Ebs : Ents), Ebs = [(some b1, Obj.cells [(Value.slice a_a_volumes a.volumes.length c_a_volumes), (Value.slice a_a_sectors a.sectors.length c_a_sectors), (Value.slice a_a_configs a.configs.length c_a_configs), (Value.slice a_a_segments a.segments.length c_a_segments), (Value.slice a_a_routes a.routes.length c_a_routes), (Value.slice a_a_airports a.airports.length c_a_airports), (Value.slice a_a_classes a.classes.length c_a_classes), (Value.slice a_a_rules a.rules.length c_a_rules)].toArray 31)] ∧ fr [] [(3, (Value.int .i64 i_1))] ∧ Step (ks [(some b1, Obj.cells [(Value.slice a_a_volumes a.volumes.length c_a_volumes), (Value.slice a_a_sectors a.sectors.length c_a_sectors), (Value.slice a_a_configs a.configs.length c_a_configs), (Value.slice a_a_segments a.segments.length c_a_segments), (Value.slice a_a_routes a.routes.length c_a_routes), (Value.slice a_a_airports a.airports.length c_a_airports), (Value.slice a_a_classes a.classes.length c_a_classes), (Value.slice a_a_rules a.rules.length c_a_rules)].toArray 31)] O) w11 (ks Ebs O) w' ∧ St ⟨w, [], []⟩ O w' Ebs ∧ InK .i64 i_1 ∧ loop1 (m16_overflightref10_Check_B0 a) m i_1 = some x) (((a.sectors.length : Int) - 0).toNat + 1) ⟨0, _, rfl, ⟨Out.refl _ _, rfl, rfl, trivial⟩, Step.refl _ _, hs12, (show InK .i64 0 from by decide), hm⟩ ?_ ?_
   · rintro _ _ ⟨_, _, _, _, _, _, _, hm⟩; exact loop1_z hm
   ·
    rintro m24 K23 hK23 ρ29 w25 ⟨i_1, Ebs, hEbs, hfr28, hst27, hs26, r_y19, hm⟩
    obtain ⟨sf21, hsf22, hm⟩ := loop1_s hm; unfold m16_overflightref10_Check_B0 at hm
    subst hEbs; rw [hfr28.eq]; clear hfr28
    replace f_a_volumes := f_a_volumes.step hst27
    replace f_a_sectors := f_a_sectors.step hst27
    replace f_a_configs := f_a_configs.step hst27
    replace f_a_segments := f_a_segments.step hst27
    replace f_a_routes := f_a_routes.step hst27
    replace f_a_airports := f_a_airports.step hst27
    replace f_a_classes := f_a_classes.step hst27
    replace f_a_rules := f_a_rules.step hst27
    have ch30 := hst27
    refine Wp_seq ?_
    refine Wp_seq ?_
    refine Wp_region ?_
    refine Rg_op rfl (op_move (v := (Value.int .i64 i_1)) rfl ?_)
    refine Rg_op rfl (op_fieldAddr ty31 rfl ty23 (by decide) rfl (rfl : _ = (⟨_, 1, none⟩ : Addr)) ?_)
    refine Rg_op rfl (op_load (cs := [(Value.slice a_a_volumes a.volumes.length c_a_volumes), (Value.slice a_a_sectors a.sectors.length c_a_sectors), (Value.slice a_a_configs a.configs.length c_a_configs), (Value.slice a_a_segments a.segments.length c_a_segments), (Value.slice a_a_routes a.routes.length c_a_routes), (Value.slice a_a_airports a.airports.length c_a_airports), (Value.slice a_a_classes a.classes.length c_a_classes), (Value.slice a_a_rules a.rules.length c_a_rules)]) (i := 0) ty23 hs26 rfl rfl rfl ?_)
    refine Rg_op rfl (op_len Try.underlying23 rfl ?_)
    refine Rg_op rfl (op_lss rfl rfl ?_)
    refine Rg_nil ?_
    refine Wp_cond rfl (fun hc31 => ?_) (fun hc31 => ?_)
    ·
     replace hm := bif_t hm hc31
     refine Wp_skip ?_
     refine Wp_seq ?_
     refine Wp_block ?_
     refine Wp_reset2 [2, 3, 33, 34, 35, 36, 37, 38, 39, 40, 41, 42, 43, 44, 45, 46, 47, 48, 49, 50, 51, 52, 53, 54, 55, 56, 57, 58, 59, 60] [] (updL ⟨ξ20, []⟩ [(1, (Value.pointer (some ⟨b1, 0, none⟩))), (3, (Value.int .i64 0))]) [(3, (Value.int .i64 i_1))] (by repeat (first | with_reducible exact Out.refl _ _ | refine Out.upd ?_ rfl | refine Out.updL ?_ rfl | refine Out.mix' ?_ rfl | exact Out.refl _ _)) rfl ⟨rfl, trivial⟩ fun ξ32 => ?_
     replace hm := jn_elim hm; obtain ⟨k34, hk35, hm⟩ := hm
     refine Wp_seqJ [40, 41, 42, 43, 44, 45, 46, 47, 48, 49, 50, 51, 52, 53, 54, 55, 56, 57, 58, 59, 60] (fun fr w' => ∃ (v_2 : Bool) (Ebs : Ents), Ebs = [(some b1, Obj.cells [(Value.slice a_a_volumes a.volumes.length c_a_volumes), (Value.slice a_a_sectors a.sectors.length c_a_sectors), (Value.slice a_a_configs a.configs.length c_a_configs), (Value.slice a_a_segments a.segments.length c_a_segments), (Value.slice a_a_routes a.routes.length c_a_routes), (Value.slice a_a_airports a.airports.length c_a_airports), (Value.slice a_a_classes a.classes.length c_a_classes), (Value.slice a_a_rules a.rules.length c_a_rules)].toArray 31)] ∧ fr [] [(60, (Value.bool v_2))] ∧ Step (ks [(some b1, Obj.cells [(Value.slice a_a_volumes a.volumes.length c_a_volumes), (Value.slice a_a_sectors a.sectors.length c_a_sectors), (Value.slice a_a_configs a.configs.length c_a_configs), (Value.slice a_a_segments a.segments.length c_a_segments), (Value.slice a_a_routes a.routes.length c_a_routes), (Value.slice a_a_airports a.airports.length c_a_airports), (Value.slice a_a_classes a.classes.length c_a_classes), (Value.slice a_a_rules a.rules.length c_a_rules)].toArray 31)] O) w25 (ks Ebs O) w' ∧ St ⟨w, [], []⟩ O w' Ebs ∧ k34 v_2 = some x) ?_ ?_
     ·
      rintro ρ41 w37 ⟨v_2, Ebs, hEbs, hfr40, hst39, hs38, hm⟩
      replace hm := jnE1 hk35 hm
      subst hEbs; rw [hfr40.eq]; clear hfr40
      replace f_a_volumes := f_a_volumes.step hst39
      replace f_a_sectors := f_a_sectors.step hst39
      replace f_a_configs := f_a_configs.step hst39
      replace f_a_segments := f_a_segments.step hst39
      replace f_a_routes := f_a_routes.step hst39
      replace f_a_airports := f_a_airports.step hst39
      replace f_a_classes := f_a_classes.step hst39
      replace f_a_rules := f_a_rules.step hst39
      replace ch30 := ch30.trans hst39
      clear hst39 hs26
      refine Wp_cond rfl (fun hc42 => ?_) (fun hc42 => ?_)
      ·
       replace hm := bif_t hm hc42
       refine Wp_seq ?_
       refine Wp_region ?_
       refine Rg_op rfl (op_assign (v := (Value.int .i64 100)) rfl ?_)
       refine Rg_nil ?_
       refine Wp_ret ?_
       have hz := step_all hs38
       replace f_a_volumes := f_a_volumes.step hz
       replace f_a_sectors := f_a_sectors.step hz
       replace f_a_configs := f_a_configs.step hz
       replace f_a_segments := f_a_segments.step hz
       replace f_a_routes := f_a_routes.step hz
       replace f_a_airports := f_a_airports.step hz
       replace f_a_classes := f_a_classes.step hz
       replace f_a_rules := f_a_rules.step hz
       refine ⟨_, (show Closes [] _ _ from rfl), [(Value.int .i64 100)], ⟨rfl, trivial⟩, hs38.ext, ?_⟩
       exact Vr.eq (a := (vI .i64)) (x := 100) ⟨rfl, (show InK .i64 100 from by decide)⟩ (Option.some.inj hm)
      ·
       replace hm := bif_f hm hc42
       refine Wp_skip ?_
       refine Wp_region ?_
       refine Rg_op rfl (op_move (v := (Value.int .i64 i_1)) rfl ?_)
       refine Rg_op rfl (op_addw rfl rfl ?_)
       refine Rg_op rfl (op_assign (v := (Value.int .i64 (IntKind.wrap .i64 (i_1 + 1)))) rfl ?_)
       refine Rg_nil ?_
       exact hK23 _ _ ⟨(IntKind.wrap .i64 (i_1 + 1)), _, rfl, ⟨(by repeat (first | with_reducible exact Out.refl _ _ | refine Out.upd ?_ rfl | refine Out.updL ?_ rfl | refine Out.mix' ?_ rfl | exact Out.refl _ _)), rfl, rfl, trivial⟩, ch30, hs38, (inK_wrap .i64 _), jnE1 hsf22 hm⟩
     ·
      intro K36 hK36
      have ch43 := Step.refl (ks [(some b1, Obj.cells [(Value.slice a_a_volumes a.volumes.length c_a_volumes), (Value.slice a_a_sectors a.sectors.length c_a_sectors), (Value.slice a_a_configs a.configs.length c_a_configs), (Value.slice a_a_segments a.segments.length c_a_segments), (Value.slice a_a_routes a.routes.length c_a_routes), (Value.slice a_a_airports a.airports.length c_a_airports), (Value.slice a_a_classes a.classes.length c_a_classes), (Value.slice a_a_rules a.rules.length c_a_rules)].toArray 31)] O) w25
      refine Wp_drawR (g0 := []) (m := 18) (fl := []) (TS_inv hs26) (.inl rfl) rfl (by decide +kernel) ?_  -- 6
      refine Dw_eq (Value.pointer (some ⟨b1, 1, none⟩)) (fun ρ44 w45 g hle hi ht => ?_) ?_
      ·
       obtain ⟨-, hst, -⟩ := hle
       refine StepOp_plain (op_fieldAddr ty31 rfl ty23 (by decide) (ht 1 rfl) (rfl : _ = (⟨_, 1, none⟩ : Addr)) ?_)
       exact Goes.same hi rfl
      refine Dw_eq (Value.slice a_a_sectors a.sectors.length c_a_sectors) (fun ρ47 w48 g hle hi ht => ?_) ?_
      ·
       obtain ⟨-, hst, -⟩ := hle
       have hsn := (Step.nx hi).1
       refine StepOp_plain (op_load (cs := [(Value.slice a_a_volumes a.volumes.length c_a_volumes), (Value.slice a_a_sectors a.sectors.length c_a_sectors), (Value.slice a_a_configs a.configs.length c_a_configs), (Value.slice a_a_segments a.segments.length c_a_segments), (Value.slice a_a_routes a.routes.length c_a_routes), (Value.slice a_a_airports a.airports.length c_a_airports), (Value.slice a_a_classes a.classes.length c_a_classes), (Value.slice a_a_rules a.rules.length c_a_rules)]) (i := 0) ty23 hsn (ht 40 rfl) rfl rfl ?_)
       exact Goes.same hi rfl
      refine Dw_eq (Value.int .i64 i_1) (fun ρ50 w51 g hle hi ht => ?_) ?_
      ·
       obtain ⟨-, hst, -⟩ := hle
       refine StepOp_plain (op_move (v := (Value.int .i64 i_1)) (ht 3 rfl) ?_)
       exact Goes.same hi rfl
      replace hm := ck_some hm; obtain ⟨hc56, hm⟩ := hm
      refine Dw_op (VP O [(some b1, Obj.cells [(Value.slice a_a_volumes a.volumes.length c_a_volumes), (Value.slice a_a_sectors a.sectors.length c_a_sectors), (Value.slice a_a_configs a.configs.length c_a_configs), (Value.slice a_a_segments a.segments.length c_a_segments), (Value.slice a_a_routes a.routes.length c_a_routes), (Value.slice a_a_airports a.airports.length c_a_airports), (Value.slice a_a_classes a.classes.length c_a_classes), (Value.slice a_a_rules a.rules.length c_a_rules)].toArray 31)] rXSector (a.sectors.getD i_1.toNat default)) (VP.stab _ _) (fun ρ53 w54 g hle hi ht => ?_) ?_
      ·
       obtain ⟨-, hst, -⟩ := hle
       replace f_a_sectors := f_a_sectors.step hst
       refine StepOp_plain (op_indexAddr (q := rXSector) ty23 ty50 (ht 41 rfl) (ht 42 rfl) f_a_sectors rfl hc56.1 hc56.2 ?_)
       intro p57 f58
       exact Goes.same hi ⟨_, rfl, f58⟩
      refine Dw_op (VP O [(some b1, Obj.cells [(Value.slice a_a_volumes a.volumes.length c_a_volumes), (Value.slice a_a_sectors a.sectors.length c_a_sectors), (Value.slice a_a_configs a.configs.length c_a_configs), (Value.slice a_a_segments a.segments.length c_a_segments), (Value.slice a_a_routes a.routes.length c_a_routes), (Value.slice a_a_airports a.airports.length c_a_airports), (Value.slice a_a_classes a.classes.length c_a_classes), (Value.slice a_a_rules a.rules.length c_a_rules)].toArray 31)] (rSl (rInt .i64)) ((a.sectors.getD i_1.toNat default).volumes)) (VP.stab _ _) (fun ρ59 w60 g hle hi ht => ?_) ?_
      ·
       obtain ⟨-, hst, -⟩ := hle
       obtain ⟨p62, q63, f64⟩ := ht 43 rfl
       refine StepOp_plain (op_fieldAddr ty50 rfl ty39 (by decide) q63 rfl ?_)
       have f65 := f64.via.snd.snd.fst
       exact Goes.same hi ⟨_, rfl, f65⟩
      refine Dw_op (VD O [(some b1, Obj.cells [(Value.slice a_a_volumes a.volumes.length c_a_volumes), (Value.slice a_a_sectors a.sectors.length c_a_sectors), (Value.slice a_a_configs a.configs.length c_a_configs), (Value.slice a_a_segments a.segments.length c_a_segments), (Value.slice a_a_routes a.routes.length c_a_routes), (Value.slice a_a_airports a.airports.length c_a_airports), (Value.slice a_a_classes a.classes.length c_a_classes), (Value.slice a_a_rules a.rules.length c_a_rules)].toArray 31)] (vC (rSl (rInt .i64))) ((a.sectors.getD i_1.toNat default).volumes)) (VD.stab _ _) (fun ρ66 w67 g hle hi ht => ?_) ?_
      ·
       obtain ⟨-, hst, -⟩ := hle
       obtain ⟨p69, q70, f71⟩ := ht 44 rfl
       refine StepOp_plain (op_loadP ty39 q70 f71 rfl ?_)
       intro v72 h73
       obtain ⟨a_y74, c_y74, rfl, f_y74⟩ := un_sl h73
       exact Goes.same hi (show Vr.vd (vC (rSl (rInt .i64))) _ _ _ _ from (mkC (mk_sl f_y74)))
      refine Dw_op (VD O [(some b1, Obj.cells [(Value.slice a_a_volumes a.volumes.length c_a_volumes), (Value.slice a_a_sectors a.sectors.length c_a_sectors), (Value.slice a_a_configs a.configs.length c_a_configs), (Value.slice a_a_segments a.segments.length c_a_segments), (Value.slice a_a_routes a.routes.length c_a_routes), (Value.slice a_a_airports a.airports.length c_a_airports), (Value.slice a_a_classes a.classes.length c_a_classes), (Value.slice a_a_rules a.rules.length c_a_rules)].toArray 31)] (vI .i64) (((a.sectors.getD i_1.toNat default).volumes).length : Int)) (VD.stab _ _) (fun ρ75 w76 g hle hi ht => ?_) ?_
      ·
       obtain ⟨-, hst, -⟩ := hle
       have h78 : Vr.vd (vC (rSl (rInt .i64))) _ _ _ _ := ht 45 rfl
       obtain ⟨a_y80, c_y80, q79, f_y80⟩ := un_sl h78
       refine StepOp_plain (op_len Try.underlying39 q79 ?_)
       exact Goes.same hi (show Vr.vd (vI .i64) _ _ _ _ from ⟨rfl, (inK_len f_y80)⟩)
      refine Dw_eq (Value.bool (decide ((((a.sectors.getD i_1.toNat default).volumes).length : Int) = 0))) (fun ρ81 w82 g hle hi ht => ?_) ?_
      ·
       obtain ⟨-, hst, -⟩ := hle
       have h84 : Vr.vd (vI .i64) _ _ _ _ := ht 46 rfl
       obtain ⟨q85, r_y86⟩ := h84
       refine StepOp_plain (op_eql q85 rfl ?_)
       exact Goes.same hi rfl
      refine Dw_opB (decide ((((a.sectors.getD i_1.toNat default).volumes).length : Int) = 0)) (fun ρ87 w88 g hle hi ht => ?_) (fun hg90 => ?_) (fun hg90 => ?_)
      ·
       obtain ⟨-, hst, -⟩ := hle
       refine StepOp_plain (op_move (v := (Value.bool (decide ((((a.sectors.getD i_1.toNat default).volumes).length : Int) = 0)))) (ht 47 rfl) ?_)
       exact Goes.same hi rfl
      ·
       replace hm := bif_t hm hg90
       refine Dw_skip (fun _ _ _ ht => wanted_x rfl (ht 48 rfl) rfl) ?_
       refine Dw_skip (fun _ _ _ ht => wanted_x rfl (ht 48 rfl) rfl) ?_
       refine Dw_skip (fun _ _ _ ht => wanted_x rfl (ht 48 rfl) rfl) ?_
       refine Dw_skip (fun _ _ _ ht => wanted_x rfl (ht 48 rfl) rfl) ?_
       refine Dw_skip (fun _ _ _ ht => wanted_x rfl (ht 48 rfl) rfl) ?_
       refine Dw_skip (fun _ _ _ ht => wanted_x rfl (ht 48 rfl) rfl) ?_
       refine Dw_skip (fun _ _ _ ht => wanted_x rfl (ht 48 rfl) rfl) ?_
       refine Dw_skip (fun _ _ _ ht => wanted_x rfl (ht 48 rfl) rfl) ?_
       refine Dw_skip (fun _ _ _ ht => wanted_x rfl (ht 48 rfl) rfl) ?_
       refine Dw_nil fun w95 g96 hl97 hi98 => ?_
       obtain ⟨-, hst99, -⟩ := hl97
       obtain ⟨hs101, p100⟩ := Step.nx hi98
       rintro _ rfl
       rintro _ rfl
       rintro _ rfl
       rintro _ rfl
       rintro _ rfl
       rintro _ rfl
       rintro _ rfl
       rintro _ rfl
       rintro _ rfl
       rintro _ rfl
       rintro _ rfl
       rintro v102 h103
       replace h103 : Vr.vd (vI .i64) _ _ _ _ := h103
       obtain ⟨rfl, r_y104⟩ := h103
       rintro v105 h106
       replace h106 : Vr.vd (vC (rSl (rInt .i64))) _ _ _ _ := h106
       obtain ⟨a_y107, c_y107, rfl, f_y107⟩ := un_sl h106
       rintro _ ⟨p108, rfl, f109⟩
       rintro _ ⟨p110, rfl, f111⟩
       rintro _ rfl
       rintro _ rfl
       rintro _ rfl
       have p112 : Step (ks [(some b1, Obj.cells [(Value.slice a_a_volumes a.volumes.length c_a_volumes), (Value.slice a_a_sectors a.sectors.length c_a_sectors), (Value.slice a_a_configs a.configs.length c_a_configs), (Value.slice a_a_segments a.segments.length c_a_segments), (Value.slice a_a_routes a.routes.length c_a_routes), (Value.slice a_a_airports a.airports.length c_a_airports), (Value.slice a_a_classes a.classes.length c_a_classes), (Value.slice a_a_rules a.rules.length c_a_rules)].toArray 31)] O) w25 (ks [(some b1, Obj.cells [(Value.slice a_a_volumes a.volumes.length c_a_volumes), (Value.slice a_a_sectors a.sectors.length c_a_sectors), (Value.slice a_a_configs a.configs.length c_a_configs), (Value.slice a_a_segments a.segments.length c_a_segments), (Value.slice a_a_routes a.routes.length c_a_routes), (Value.slice a_a_airports a.airports.length c_a_airports), (Value.slice a_a_classes a.classes.length c_a_classes), (Value.slice a_a_rules a.rules.length c_a_rules)].toArray 31)] O) w95 := hst99.trans p100
       replace f_y107 := f_y107.step p100
       replace f109 := f109.step p100
       replace f111 := f111.step p100
       replace f_a_volumes := f_a_volumes.step p112
       replace f_a_sectors := f_a_sectors.step p112
       replace f_a_configs := f_a_configs.step p112
       replace f_a_segments := f_a_segments.step p112
       replace f_a_routes := f_a_routes.step p112
       replace f_a_airports := f_a_airports.step p112
       replace f_a_classes := f_a_classes.step p112
       replace f_a_rules := f_a_rules.step p112
       replace ch30 := ch30.trans p112
       replace ch43 := ch43.trans p112
       clear p112 hs26
       iterate 2 refine Rg_opx rfl (asB_ne rfl rfl) rfl ?_
       refine Rg_op rfl (op_pick_t (v := (Value.bool true)) rfl rfl ?_)
       refine Rg_nil ?_
       exact hK36 _ _ ⟨true, _, rfl, ⟨(by repeat (first | with_reducible exact Out.refl _ _ | refine Out.upd ?_ rfl | refine Out.updL ?_ rfl | refine Out.mix' ?_ rfl | exact Out.refl _ _)), rfl, rfl, trivial⟩, ch43, hs101, hm⟩
      ·
       replace hm := bif_f hm hg90
       refine Dw_eq (Value.pointer (some ⟨b1, 1, none⟩)) (fun ρ113 w114 g hle hi ht => ?_) ?_
       ·
        obtain ⟨-, hst, -⟩ := hle
        refine StepOp_g rfl (ht 48 rfl) (op_fieldAddr ty31 rfl ty23 (by decide) (ht 1 rfl) (rfl : _ = (⟨_, 1, none⟩ : Addr)) ?_)
        exact Goes.same hi rfl
       refine Dw_eq (Value.slice a_a_sectors a.sectors.length c_a_sectors) (fun ρ116 w117 g hle hi ht => ?_) ?_
       ·
        obtain ⟨-, hst, -⟩ := hle
        have hsn := (Step.nx hi).1
        refine StepOp_g rfl (ht 48 rfl) (op_load (cs := [(Value.slice a_a_volumes a.volumes.length c_a_volumes), (Value.slice a_a_sectors a.sectors.length c_a_sectors), (Value.slice a_a_configs a.configs.length c_a_configs), (Value.slice a_a_segments a.segments.length c_a_segments), (Value.slice a_a_routes a.routes.length c_a_routes), (Value.slice a_a_airports a.airports.length c_a_airports), (Value.slice a_a_classes a.classes.length c_a_classes), (Value.slice a_a_rules a.rules.length c_a_rules)]) (i := 0) ty23 hsn (ht 49 rfl) rfl rfl ?_)
        exact Goes.same hi rfl
       refine Dw_eq (Value.int .i64 i_1) (fun ρ119 w120 g hle hi ht => ?_) ?_
       ·
        obtain ⟨-, hst, -⟩ := hle
        refine StepOp_g rfl (ht 48 rfl) (op_move (v := (Value.int .i64 i_1)) (ht 3 rfl) ?_)
        exact Goes.same hi rfl
       replace hm := ck_some hm; obtain ⟨hc125, hm⟩ := hm
       refine Dw_op (VP O [(some b1, Obj.cells [(Value.slice a_a_volumes a.volumes.length c_a_volumes), (Value.slice a_a_sectors a.sectors.length c_a_sectors), (Value.slice a_a_configs a.configs.length c_a_configs), (Value.slice a_a_segments a.segments.length c_a_segments), (Value.slice a_a_routes a.routes.length c_a_routes), (Value.slice a_a_airports a.airports.length c_a_airports), (Value.slice a_a_classes a.classes.length c_a_classes), (Value.slice a_a_rules a.rules.length c_a_rules)].toArray 31)] rXSector (a.sectors.getD i_1.toNat default)) (VP.stab _ _) (fun ρ122 w123 g hle hi ht => ?_) ?_
       ·
        obtain ⟨-, hst, -⟩ := hle
        replace f_a_sectors := f_a_sectors.step hst
        refine StepOp_g rfl (ht 48 rfl) (op_indexAddr (q := rXSector) ty23 ty50 (ht 50 rfl) (ht 51 rfl) f_a_sectors rfl hc125.1 hc125.2 ?_)
        intro p126 f127
        exact Goes.same hi ⟨_, rfl, f127⟩
       refine Dw_op (VP O [(some b1, Obj.cells [(Value.slice a_a_volumes a.volumes.length c_a_volumes), (Value.slice a_a_sectors a.sectors.length c_a_sectors), (Value.slice a_a_configs a.configs.length c_a_configs), (Value.slice a_a_segments a.segments.length c_a_segments), (Value.slice a_a_routes a.routes.length c_a_routes), (Value.slice a_a_airports a.airports.length c_a_airports), (Value.slice a_a_classes a.classes.length c_a_classes), (Value.slice a_a_rules a.rules.length c_a_rules)].toArray 31)] (rSl (rInt .i64)) ((a.sectors.getD i_1.toNat default).volumes)) (VP.stab _ _) (fun ρ128 w129 g hle hi ht => ?_) ?_
       ·
        obtain ⟨-, hst, -⟩ := hle
        obtain ⟨p131, q132, f133⟩ := ht 52 rfl
        refine StepOp_g rfl (ht 48 rfl) (op_fieldAddr ty50 rfl ty39 (by decide) q132 rfl ?_)
        have f134 := f133.via.snd.snd.fst
        exact Goes.same hi ⟨_, rfl, f134⟩
       refine Dw_op (VD O [(some b1, Obj.cells [(Value.slice a_a_volumes a.volumes.length c_a_volumes), (Value.slice a_a_sectors a.sectors.length c_a_sectors), (Value.slice a_a_configs a.configs.length c_a_configs), (Value.slice a_a_segments a.segments.length c_a_segments), (Value.slice a_a_routes a.routes.length c_a_routes), (Value.slice a_a_airports a.airports.length c_a_airports), (Value.slice a_a_classes a.classes.length c_a_classes), (Value.slice a_a_rules a.rules.length c_a_rules)].toArray 31)] (vC (rSl (rInt .i64))) ((a.sectors.getD i_1.toNat default).volumes)) (VD.stab _ _) (fun ρ135 w136 g hle hi ht => ?_) ?_
       ·
        obtain ⟨-, hst, -⟩ := hle
        obtain ⟨p138, q139, f140⟩ := ht 53 rfl
        refine StepOp_g rfl (ht 48 rfl) (op_loadP ty39 q139 f140 rfl ?_)
        intro v141 h142
        obtain ⟨a_y143, c_y143, rfl, f_y143⟩ := un_sl h142
        exact Goes.same hi (show Vr.vd (vC (rSl (rInt .i64))) _ _ _ _ from (mkC (mk_sl f_y143)))
       refine Dw_eq (Value.pointer (some ⟨b1, 0, none⟩)) (fun ρ144 w145 g hle hi ht => ?_) ?_
       ·
        obtain ⟨-, hst, -⟩ := hle
        refine StepOp_g rfl (ht 48 rfl) (op_fieldAddr ty31 rfl ty22 (by decide) (ht 1 rfl) (rfl : _ = (⟨_, 0, none⟩ : Addr)) ?_)
        exact Goes.same hi rfl
       refine Dw_eq (Value.slice a_a_volumes a.volumes.length c_a_volumes) (fun ρ147 w148 g hle hi ht => ?_) ?_
       ·
        obtain ⟨-, hst, -⟩ := hle
        have hsn := (Step.nx hi).1
        refine StepOp_g rfl (ht 48 rfl) (op_load (cs := [(Value.slice a_a_volumes a.volumes.length c_a_volumes), (Value.slice a_a_sectors a.sectors.length c_a_sectors), (Value.slice a_a_configs a.configs.length c_a_configs), (Value.slice a_a_segments a.segments.length c_a_segments), (Value.slice a_a_routes a.routes.length c_a_routes), (Value.slice a_a_airports a.airports.length c_a_airports), (Value.slice a_a_classes a.classes.length c_a_classes), (Value.slice a_a_rules a.rules.length c_a_rules)]) (i := 0) ty22 hsn (ht 55 rfl) rfl rfl ?_)
        exact Goes.same hi rfl
       refine Dw_eq (Value.int .i64 (a.volumes.length : Int)) (fun ρ150 w151 g hle hi ht => ?_) ?_
       ·
        obtain ⟨-, hst, -⟩ := hle
        refine StepOp_g rfl (ht 48 rfl) (op_len Try.underlying22 (ht 56 rfl) ?_)
        exact Goes.same hi rfl
       refine Dw_nil fun w157 g158 hl159 hi160 => ?_
       obtain ⟨-, hst161, -⟩ := hl159
       obtain ⟨hs163, p162⟩ := Step.nx hi160
       rintro _ rfl
       rintro _ rfl
       rintro _ rfl
       rintro v164 h165
       replace h165 : Vr.vd (vC (rSl (rInt .i64))) _ _ _ _ := h165
       obtain ⟨a_y166, c_y166, rfl, f_y166⟩ := un_sl h165
       rintro _ ⟨p167, rfl, f168⟩
       rintro _ ⟨p169, rfl, f170⟩
       rintro _ rfl
       rintro _ rfl
       rintro _ rfl
       rintro _ rfl
       rintro _ rfl
       rintro v171 h172
       replace h172 : Vr.vd (vI .i64) _ _ _ _ := h172
       obtain ⟨rfl, r_y173⟩ := h172
       rintro v174 h175
       replace h175 : Vr.vd (vC (rSl (rInt .i64))) _ _ _ _ := h175
       obtain ⟨a_y176, c_y176, rfl, f_y176⟩ := un_sl h175
       rintro _ ⟨p177, rfl, f178⟩
       rintro _ ⟨p179, rfl, f180⟩
       rintro _ rfl
       rintro _ rfl
       rintro _ rfl
       have p181 : Step (ks [(some b1, Obj.cells [(Value.slice a_a_volumes a.volumes.length c_a_volumes), (Value.slice a_a_sectors a.sectors.length c_a_sectors), (Value.slice a_a_configs a.configs.length c_a_configs), (Value.slice a_a_segments a.segments.length c_a_segments), (Value.slice a_a_routes a.routes.length c_a_routes), (Value.slice a_a_airports a.airports.length c_a_airports), (Value.slice a_a_classes a.classes.length c_a_classes), (Value.slice a_a_rules a.rules.length c_a_rules)].toArray 31)] O) w25 (ks [(some b1, Obj.cells [(Value.slice a_a_volumes a.volumes.length c_a_volumes), (Value.slice a_a_sectors a.sectors.length c_a_sectors), (Value.slice a_a_configs a.configs.length c_a_configs), (Value.slice a_a_segments a.segments.length c_a_segments), (Value.slice a_a_routes a.routes.length c_a_routes), (Value.slice a_a_airports a.airports.length c_a_airports), (Value.slice a_a_classes a.classes.length c_a_classes), (Value.slice a_a_rules a.rules.length c_a_rules)].toArray 31)] O) w157 := hst161.trans p162
       replace f_y166 := f_y166.step p162
       replace f168 := f168.step p162
       replace f170 := f170.step p162
       replace f_y176 := f_y176.step p162
       replace f178 := f178.step p162
       replace f180 := f180.step p162
       replace f_a_volumes := f_a_volumes.step p181
       replace f_a_sectors := f_a_sectors.step p181
       replace f_a_configs := f_a_configs.step p181
       replace f_a_segments := f_a_segments.step p181
       replace f_a_routes := f_a_routes.step p181
       replace f_a_airports := f_a_airports.step p181
       replace f_a_classes := f_a_classes.step p181
       replace f_a_rules := f_a_rules.step p181
       replace ch30 := ch30.trans p181
       replace ch43 := ch43.trans p181
       clear p181 hs26
       replace hm := bd hm; obtain ⟨indices_1, hv182, hm⟩ := hm
       refine Rg_opg rfl rfl rfl (op_call Try.call32 (c32_overflightref10_indices (l := (a.sectors.getD i_1.toNat default).volumes) (below := (a.volumes.length : Int)) hs163.ltw f_y166 (inK_len f_a_volumes) hv182) rfl ?_)
       rintro v183 w184 ⟨hx185, h186⟩
       have hs187 := hs163.call hx185
       have p188 := Step.ext (O := ks [(some b1, Obj.cells [(Value.slice a_a_volumes a.volumes.length c_a_volumes), (Value.slice a_a_sectors a.sectors.length c_a_sectors), (Value.slice a_a_configs a.configs.length c_a_configs), (Value.slice a_a_segments a.segments.length c_a_segments), (Value.slice a_a_routes a.routes.length c_a_routes), (Value.slice a_a_airports a.airports.length c_a_airports), (Value.slice a_a_classes a.classes.length c_a_classes), (Value.slice a_a_rules a.rules.length c_a_rules)].toArray 31)] O) hx185
       clear hx185
       replace f_a_volumes := f_a_volumes.step p188
       replace f_a_sectors := f_a_sectors.step p188
       replace f_a_configs := f_a_configs.step p188
       replace f_a_segments := f_a_segments.step p188
       replace f_a_routes := f_a_routes.step p188
       replace f_a_airports := f_a_airports.step p188
       replace f_a_classes := f_a_classes.step p188
       replace f_a_rules := f_a_rules.step p188
       replace f_y166 := f_y166.step p188
       replace f168 := f168.step p188
       replace f170 := f170.step p188
       replace f_y176 := f_y176.step p188
       replace f178 := f178.step p188
       replace f180 := f180.step p188
       replace ch30 := ch30.trans p188
       replace ch43 := ch43.trans p188
       clear p188 hs163
       obtain rfl := h186
       refine Rg_opg rfl rfl rfl (op_not rfl ?_)
       refine Rg_op rfl (op_pick_f (v := (Value.bool (!indices_1))) rfl rfl ?_)
       refine Rg_nil ?_
       exact hK36 _ _ ⟨(!indices_1), _, rfl, ⟨(by repeat (first | with_reducible exact Out.refl _ _ | refine Out.upd ?_ rfl | refine Out.updL ?_ rfl | refine Out.mix' ?_ rfl | exact Out.refl _ _)), rfl, rfl, trivial⟩, ch43, hs187, hm⟩
    ·
     replace hm := bif_f hm hc31
     refine Wp_exit ?_
     refine Wp_seq ?_
     refine Wp_seq ?_
     refine Wp_region ?_
     refine Rg_op rfl (op_assign (v := (Value.int .i64 0)) rfl ?_)
     refine Rg_nil ?_
     refine Wp_block ?_
     refine Wp_reset [] [(1, (Value.pointer (some ⟨b1, 0, none⟩))), (4, (Value.int .i64 0))] rfl ⟨rfl, rfl, trivial⟩ fun ξ191 => ?_
     refine Wp_loopM [2, 4, 61, 62, 63, 64, 65, 66, 67, 68, 69, 70, 71, 72, 73, 74, 75] (fun m fr w' => ∃ (i_2 : Int) (Ebs : Ents), Ebs = [(some b1, Obj.cells [(Value.slice a_a_volumes a.volumes.length c_a_volumes), (Value.slice a_a_sectors a.sectors.length c_a_sectors), (Value.slice a_a_configs a.configs.length c_a_configs), (Value.slice a_a_segments a.segments.length c_a_segments), (Value.slice a_a_routes a.routes.length c_a_routes), (Value.slice a_a_airports a.airports.length c_a_airports), (Value.slice a_a_classes a.classes.length c_a_classes), (Value.slice a_a_rules a.rules.length c_a_rules)].toArray 31)] ∧ fr [] [(4, (Value.int .i64 i_2))] ∧ Step (ks [(some b1, Obj.cells [(Value.slice a_a_volumes a.volumes.length c_a_volumes), (Value.slice a_a_sectors a.sectors.length c_a_sectors), (Value.slice a_a_configs a.configs.length c_a_configs), (Value.slice a_a_segments a.segments.length c_a_segments), (Value.slice a_a_routes a.routes.length c_a_routes), (Value.slice a_a_airports a.airports.length c_a_airports), (Value.slice a_a_classes a.classes.length c_a_classes), (Value.slice a_a_rules a.rules.length c_a_rules)].toArray 31)] O) w25 (ks Ebs O) w' ∧ St ⟨w, [], []⟩ O w' Ebs ∧ InK .i64 i_2 ∧ loop1 (m16_overflightref10_Check_B1 a) m i_2 = some x) (((a.configs.length : Int) - 0).toNat + 1) ⟨0, _, rfl, ⟨Out.refl _ _, rfl, rfl, trivial⟩, Step.refl _ _, hs26, (show InK .i64 0 from by decide), hm⟩ ?_ ?_
     · rintro _ _ ⟨_, _, _, _, _, _, _, hm⟩; exact loop1_z hm
     ·
      rintro m195 K194 hK194 ρ200 w196 ⟨i_2, Ebs, hEbs, hfr199, hst198, hs197, r_y190, hm⟩
      obtain ⟨sf192, hsf193, hm⟩ := loop1_s hm; unfold m16_overflightref10_Check_B1 at hm
      subst hEbs; rw [hfr199.eq]; clear hfr199
      replace f_a_volumes := f_a_volumes.step hst198
      replace f_a_sectors := f_a_sectors.step hst198
      replace f_a_configs := f_a_configs.step hst198
      replace f_a_segments := f_a_segments.step hst198
      replace f_a_routes := f_a_routes.step hst198
      replace f_a_airports := f_a_airports.step hst198
      replace f_a_classes := f_a_classes.step hst198
      replace f_a_rules := f_a_rules.step hst198
      replace ch30 := ch30.trans hst198
      have ch201 := hst198
      refine Wp_seq ?_
      refine Wp_seq ?_
      refine Wp_region ?_
      refine Rg_op rfl (op_move (v := (Value.int .i64 i_2)) rfl ?_)
      refine Rg_op rfl (op_fieldAddr ty31 rfl ty24 (by decide) rfl (rfl : _ = (⟨_, 2, none⟩ : Addr)) ?_)
      refine Rg_op rfl (op_load (cs := [(Value.slice a_a_volumes a.volumes.length c_a_volumes), (Value.slice a_a_sectors a.sectors.length c_a_sectors), (Value.slice a_a_configs a.configs.length c_a_configs), (Value.slice a_a_segments a.segments.length c_a_segments), (Value.slice a_a_routes a.routes.length c_a_routes), (Value.slice a_a_airports a.airports.length c_a_airports), (Value.slice a_a_classes a.classes.length c_a_classes), (Value.slice a_a_rules a.rules.length c_a_rules)]) (i := 0) ty24 hs197 rfl rfl rfl ?_)
      refine Rg_op rfl (op_len Try.underlying24 rfl ?_)
      refine Rg_op rfl (op_lss rfl rfl ?_)
      refine Rg_nil ?_
      refine Wp_cond rfl (fun hc202 => ?_) (fun hc202 => ?_)
      ·
       replace hm := bif_t hm hc202
       refine Wp_skip ?_
       refine Wp_seq ?_
       refine Wp_block ?_
       refine Wp_seq ?_
       refine Wp_drawR (g0 := []) (m := 6) (fl := []) (TS_inv hs197) (.inl rfl) rfl (by decide +kernel) ?_  -- 11
       refine Dw_eq (Value.agg [(Value.slice a_a_volumes a.volumes.length c_a_volumes), (Value.slice a_a_sectors a.sectors.length c_a_sectors), (Value.slice a_a_configs a.configs.length c_a_configs), (Value.slice a_a_segments a.segments.length c_a_segments), (Value.slice a_a_routes a.routes.length c_a_routes), (Value.slice a_a_airports a.airports.length c_a_airports), (Value.slice a_a_classes a.classes.length c_a_classes), (Value.slice a_a_rules a.rules.length c_a_rules)].toArray) (fun ρ203 w204 g hle hi ht => ?_) ?_
       ·
        obtain ⟨-, hst, -⟩ := hle
        have hsn := (Step.nx hi).1
        refine StepOp_plain (op_loadA (cs := [(Value.slice a_a_volumes a.volumes.length c_a_volumes), (Value.slice a_a_sectors a.sectors.length c_a_sectors), (Value.slice a_a_configs a.configs.length c_a_configs), (Value.slice a_a_segments a.segments.length c_a_segments), (Value.slice a_a_routes a.routes.length c_a_routes), (Value.slice a_a_airports a.airports.length c_a_airports), (Value.slice a_a_classes a.classes.length c_a_classes), (Value.slice a_a_rules a.rules.length c_a_rules)]) (vs := [(Value.slice a_a_volumes a.volumes.length c_a_volumes), (Value.slice a_a_sectors a.sectors.length c_a_sectors), (Value.slice a_a_configs a.configs.length c_a_configs), (Value.slice a_a_segments a.segments.length c_a_segments), (Value.slice a_a_routes a.routes.length c_a_routes), (Value.slice a_a_airports a.airports.length c_a_airports), (Value.slice a_a_classes a.classes.length c_a_classes), (Value.slice a_a_rules a.rules.length c_a_rules)]) (i := 0) ty31 hsn (ht 1 rfl) rfl rfl rfl ?_)
        exact Goes.same hi rfl
       refine Dw_eq (Value.pointer (some ⟨b1, 2, none⟩)) (fun ρ206 w207 g hle hi ht => ?_) ?_
       ·
        obtain ⟨-, hst, -⟩ := hle
        refine StepOp_plain (op_fieldAddr ty31 rfl ty24 (by decide) (ht 1 rfl) (rfl : _ = (⟨_, 2, none⟩ : Addr)) ?_)
        exact Goes.same hi rfl
       refine Dw_eq (Value.slice a_a_configs a.configs.length c_a_configs) (fun ρ209 w210 g hle hi ht => ?_) ?_
       ·
        obtain ⟨-, hst, -⟩ := hle
        have hsn := (Step.nx hi).1
        refine StepOp_plain (op_load (cs := [(Value.slice a_a_volumes a.volumes.length c_a_volumes), (Value.slice a_a_sectors a.sectors.length c_a_sectors), (Value.slice a_a_configs a.configs.length c_a_configs), (Value.slice a_a_segments a.segments.length c_a_segments), (Value.slice a_a_routes a.routes.length c_a_routes), (Value.slice a_a_airports a.airports.length c_a_airports), (Value.slice a_a_classes a.classes.length c_a_classes), (Value.slice a_a_rules a.rules.length c_a_rules)]) (i := 0) ty24 hsn (ht 69 rfl) rfl rfl ?_)
        exact Goes.same hi rfl
       refine Dw_eq (Value.int .i64 i_2) (fun ρ212 w213 g hle hi ht => ?_) ?_
       ·
        obtain ⟨-, hst, -⟩ := hle
        refine StepOp_plain (op_move (v := (Value.int .i64 i_2)) (ht 4 rfl) ?_)
        exact Goes.same hi rfl
       replace hm := ck_some hm; obtain ⟨hc218, hm⟩ := hm
       refine Dw_op (VP O [(some b1, Obj.cells [(Value.slice a_a_volumes a.volumes.length c_a_volumes), (Value.slice a_a_sectors a.sectors.length c_a_sectors), (Value.slice a_a_configs a.configs.length c_a_configs), (Value.slice a_a_segments a.segments.length c_a_segments), (Value.slice a_a_routes a.routes.length c_a_routes), (Value.slice a_a_airports a.airports.length c_a_airports), (Value.slice a_a_classes a.classes.length c_a_classes), (Value.slice a_a_rules a.rules.length c_a_rules)].toArray 31)] rXConfig (a.configs.getD i_2.toNat default)) (VP.stab _ _) (fun ρ215 w216 g hle hi ht => ?_) ?_
       ·
        obtain ⟨-, hst, -⟩ := hle
        replace f_a_configs := f_a_configs.step hst
        refine StepOp_plain (op_indexAddr (q := rXConfig) ty24 ty52 (ht 70 rfl) (ht 71 rfl) f_a_configs rfl hc218.1 hc218.2 ?_)
        intro p219 f220
        exact Goes.same hi ⟨_, rfl, f220⟩
       refine Dw_op (VD O [(some b1, Obj.cells [(Value.slice a_a_volumes a.volumes.length c_a_volumes), (Value.slice a_a_sectors a.sectors.length c_a_sectors), (Value.slice a_a_configs a.configs.length c_a_configs), (Value.slice a_a_segments a.segments.length c_a_segments), (Value.slice a_a_routes a.routes.length c_a_routes), (Value.slice a_a_airports a.airports.length c_a_airports), (Value.slice a_a_classes a.classes.length c_a_classes), (Value.slice a_a_rules a.rules.length c_a_rules)].toArray 31)] (vA rXConfig) (a.configs.getD i_2.toNat default)) (VD.stab _ _) (fun ρ221 w222 g hle hi ht => ?_) ?_
       ·
        obtain ⟨-, hst, -⟩ := hle
        obtain ⟨p224, q225, f226⟩ := ht 72 rfl
        refine StepOp_plain (op_loadPA ty52 q225 f226 rfl ?_)
        intro vs227 h228
        obtain ⟨_, _, rfl, rfl, ⟨_, _, rfl, ⟨a_y229_names, c_y229_names, rfl, f_y229_names⟩, ⟨a_y229_sectors, c_y229_sectors, rfl, f_y229_sectors⟩⟩⟩ := h228
        exact Goes.same hi (show Vr.vd (vA rXConfig) _ _ _ _ from (mkA (mkVia (mk_pair mkStr (mk_pair (mk_sl f_y229_names) (mk_sl f_y229_sectors))))))
       refine Dw_nil fun w234 g235 hl236 hi237 => ?_
       obtain ⟨-, hst238, -⟩ := hl236
       obtain ⟨hs240, p239⟩ := Step.nx hi237
       rintro v241 h242
       replace h242 : Vr.vd (vA rXConfig) _ _ _ _ := h242
       obtain ⟨_, rfl, ⟨_, _, rfl, rfl, ⟨_, _, rfl, ⟨a_y243_names, c_y243_names, rfl, f_y243_names⟩, ⟨a_y243_sectors, c_y243_sectors, rfl, f_y243_sectors⟩⟩⟩⟩ := h242
       rintro _ ⟨p244, rfl, f245⟩
       rintro _ rfl
       rintro _ rfl
       rintro _ rfl
       rintro _ rfl
       have p246 : Step (ks [(some b1, Obj.cells [(Value.slice a_a_volumes a.volumes.length c_a_volumes), (Value.slice a_a_sectors a.sectors.length c_a_sectors), (Value.slice a_a_configs a.configs.length c_a_configs), (Value.slice a_a_segments a.segments.length c_a_segments), (Value.slice a_a_routes a.routes.length c_a_routes), (Value.slice a_a_airports a.airports.length c_a_airports), (Value.slice a_a_classes a.classes.length c_a_classes), (Value.slice a_a_rules a.rules.length c_a_rules)].toArray 31)] O) w196 (ks [(some b1, Obj.cells [(Value.slice a_a_volumes a.volumes.length c_a_volumes), (Value.slice a_a_sectors a.sectors.length c_a_sectors), (Value.slice a_a_configs a.configs.length c_a_configs), (Value.slice a_a_segments a.segments.length c_a_segments), (Value.slice a_a_routes a.routes.length c_a_routes), (Value.slice a_a_airports a.airports.length c_a_airports), (Value.slice a_a_classes a.classes.length c_a_classes), (Value.slice a_a_rules a.rules.length c_a_rules)].toArray 31)] O) w234 := hst238.trans p239
       replace f_y243_names := f_y243_names.step p239
       replace f_y243_sectors := f_y243_sectors.step p239
       replace f245 := f245.step p239
       replace f_a_volumes := f_a_volumes.step p246
       replace f_a_sectors := f_a_sectors.step p246
       replace f_a_configs := f_a_configs.step p246
       replace f_a_segments := f_a_segments.step p246
       replace f_a_routes := f_a_routes.step p246
       replace f_a_airports := f_a_airports.step p246
       replace f_a_classes := f_a_classes.step p246
       replace f_a_rules := f_a_rules.step p246
       replace ch30 := ch30.trans p246
       replace ch201 := ch201.trans p246
       clear p246 hs197
       replace hm := bd hm; obtain ⟨divides_1, hv247, hm⟩ := hm
       refine Rg_op rfl (op_call Try.call33 (c33_overflightref10_divides (a := a) (c := (a.configs.getD i_2.toNat default)) hs240.ltw f_a_volumes f_a_sectors f_a_configs f_a_segments f_a_routes f_a_airports f_a_classes f_a_rules f_y243_names f_y243_sectors hv247) rfl ?_)
       rintro v248 w249 ⟨hx250, h251⟩
       have hs252 := hs240.call hx250
       have p253 := Step.ext (O := ks [(some b1, Obj.cells [(Value.slice a_a_volumes a.volumes.length c_a_volumes), (Value.slice a_a_sectors a.sectors.length c_a_sectors), (Value.slice a_a_configs a.configs.length c_a_configs), (Value.slice a_a_segments a.segments.length c_a_segments), (Value.slice a_a_routes a.routes.length c_a_routes), (Value.slice a_a_airports a.airports.length c_a_airports), (Value.slice a_a_classes a.classes.length c_a_classes), (Value.slice a_a_rules a.rules.length c_a_rules)].toArray 31)] O) hx250
       clear hx250
       replace f_a_volumes := f_a_volumes.step p253
       replace f_a_sectors := f_a_sectors.step p253
       replace f_a_configs := f_a_configs.step p253
       replace f_a_segments := f_a_segments.step p253
       replace f_a_routes := f_a_routes.step p253
       replace f_a_airports := f_a_airports.step p253
       replace f_a_classes := f_a_classes.step p253
       replace f_a_rules := f_a_rules.step p253
       replace f_y243_names := f_y243_names.step p253
       replace f_y243_sectors := f_y243_sectors.step p253
       replace f245 := f245.step p253
       replace ch30 := ch30.trans p253
       replace ch201 := ch201.trans p253
       clear p253 hs240
       obtain rfl := h251
       refine Rg_op rfl (op_not rfl ?_)
       refine Rg_nil ?_
       refine Wp_cond rfl (fun hc255 => ?_) (fun hc255 => ?_)
       ·
        replace hm := bif_t hm hc255
        refine Wp_seq ?_
        clear f_y243_names f_y243_sectors f245
        refine Wp_region ?_
        refine Rg_op rfl (op_assign (v := (Value.int .i64 100)) rfl ?_)
        refine Rg_nil ?_
        refine Wp_ret ?_
        have hz := step_all hs252
        replace f_a_volumes := f_a_volumes.step hz
        replace f_a_sectors := f_a_sectors.step hz
        replace f_a_configs := f_a_configs.step hz
        replace f_a_segments := f_a_segments.step hz
        replace f_a_routes := f_a_routes.step hz
        replace f_a_airports := f_a_airports.step hz
        replace f_a_classes := f_a_classes.step hz
        replace f_a_rules := f_a_rules.step hz
        refine ⟨_, (show Closes [] _ _ from rfl), [(Value.int .i64 100)], ⟨rfl, trivial⟩, hs252.ext, ?_⟩
        exact Vr.eq (a := (vI .i64)) (x := 100) ⟨rfl, (show InK .i64 100 from by decide)⟩ (Option.some.inj hm)
       ·
        replace hm := bif_f hm hc255
        refine Wp_skip ?_
        clear f_y243_names f_y243_sectors f245
        refine Wp_region ?_
        refine Rg_op rfl (op_move (v := (Value.int .i64 i_2)) rfl ?_)
        refine Rg_op rfl (op_addw rfl rfl ?_)
        refine Rg_op rfl (op_assign (v := (Value.int .i64 (IntKind.wrap .i64 (i_2 + 1)))) rfl ?_)
        refine Rg_nil ?_
        exact hK194 _ _ ⟨(IntKind.wrap .i64 (i_2 + 1)), _, rfl, ⟨(by repeat (first | with_reducible exact Out.refl _ _ | refine Out.upd ?_ rfl | refine Out.updL ?_ rfl | refine Out.mix' ?_ rfl | exact Out.refl _ _)), rfl, rfl, trivial⟩, ch201, hs252, (inK_wrap .i64 _), jnE1 hsf193 hm⟩
      ·
       replace hm := bif_f hm hc202
       refine Wp_exit ?_
       refine Wp_seq ?_
       obtain ⟨hs256, p257⟩ := hs197.sub (bs' := []) (.cons _ List.Sublist.slnil)
       clear f_a_volumes f_a_sectors f_a_configs f_a_segments f_a_routes f_a_airports f_a_classes f_a_rules
       replace ch30 := ch30.trans p257
       replace ch201 := ch201.trans p257
       clear p257 hs197
       refine Wp_region ?_
       refine Rg_op rfl (op_assign (v := (Value.int .i64 0)) rfl ?_)
       refine Rg_nil ?_
       refine Wp_ret ?_
       have hz := step_all hs256
       refine ⟨_, (show Closes [] _ _ from rfl), [(Value.int .i64 0)], ⟨rfl, trivial⟩, hs256.ext, ?_⟩
       exact Vr.eq (a := (vI .i64)) (x := 0) ⟨rfl, (show InK .i64 0 from by decide)⟩ (Option.some.inj hm)
 ·
  intro K10 hK10
  have ch258 := Step.refl (ks [(some b1, Obj.cells [(Value.slice a_a_volumes a.volumes.length c_a_volumes), (Value.slice a_a_sectors a.sectors.length c_a_sectors), (Value.slice a_a_configs a.configs.length c_a_configs), (Value.slice a_a_segments a.segments.length c_a_segments), (Value.slice a_a_routes a.routes.length c_a_routes), (Value.slice a_a_airports a.airports.length c_a_airports), (Value.slice a_a_classes a.classes.length c_a_classes), (Value.slice a_a_rules a.rules.length c_a_rules)].toArray 31)] O) w2
  refine Wp_region ?_
  refine Rg_op rfl (op_fieldAddr ty31 rfl ty22 (by decide) rfl (rfl : _ = (⟨_, 0, none⟩ : Addr)) ?_)
  refine Rg_op rfl (op_load (cs := [(Value.slice a_a_volumes a.volumes.length c_a_volumes), (Value.slice a_a_sectors a.sectors.length c_a_sectors), (Value.slice a_a_configs a.configs.length c_a_configs), (Value.slice a_a_segments a.segments.length c_a_segments), (Value.slice a_a_routes a.routes.length c_a_routes), (Value.slice a_a_airports a.airports.length c_a_airports), (Value.slice a_a_classes a.classes.length c_a_classes), (Value.slice a_a_rules a.rules.length c_a_rules)]) (i := 0) ty22 hs4 rfl rfl rfl ?_)
  refine Rg_op rfl (op_len Try.underlying22 rfl ?_)
  refine Rg_op rfl (op_lss rfl rfl ?_)
  refine Rg_op rfl (op_move (v := (Value.bool (decide ((a.volumes.length : Int) < 1)))) rfl ?_)
  refine Rg_case (fun hg259 => ?_) (fun hg259 => ?_)
  ·
   replace hm := bif_t hm hg259
   iterate 4 refine Rg_opx rfl (asB_ne rfl rfl) rfl ?_
   refine Rg_op rfl (op_pick_t (v := (Value.bool true)) rfl rfl ?_)
   refine Rg_op rfl (op_move (v := (Value.bool true)) rfl ?_)
   iterate 4 refine Rg_opx rfl (asB_ne rfl rfl) rfl ?_
   refine Rg_op rfl (op_pick_t (v := (Value.bool true)) rfl rfl ?_)
   refine Rg_op rfl (op_move (v := (Value.bool true)) rfl ?_)
   iterate 4 refine Rg_opx rfl (asB_ne rfl rfl) rfl ?_
   refine Rg_op rfl (op_pick_t (v := (Value.bool true)) rfl rfl ?_)
   refine Rg_op rfl (op_move (v := (Value.bool true)) rfl ?_)
   iterate 4 refine Rg_opx rfl (asB_ne rfl rfl) rfl ?_
   refine Rg_op rfl (op_pick_t (v := (Value.bool true)) rfl rfl ?_)
   refine Rg_nil ?_
   exact hK10 _ _ ⟨true, _, rfl, ⟨(by repeat (first | with_reducible exact Out.refl _ _ | refine Out.upd ?_ rfl | refine Out.updL ?_ rfl | refine Out.mix' ?_ rfl | exact Out.refl _ _)), rfl, rfl, trivial⟩, ch258, hs4, hm⟩
  ·
   replace hm := bif_f hm hg259
   refine Rg_opg rfl rfl rfl (op_fieldAddr ty31 rfl ty22 (by decide) rfl (rfl : _ = (⟨_, 0, none⟩ : Addr)) ?_)
   refine Rg_opg rfl rfl rfl (op_load (cs := [(Value.slice a_a_volumes a.volumes.length c_a_volumes), (Value.slice a_a_sectors a.sectors.length c_a_sectors), (Value.slice a_a_configs a.configs.length c_a_configs), (Value.slice a_a_segments a.segments.length c_a_segments), (Value.slice a_a_routes a.routes.length c_a_routes), (Value.slice a_a_airports a.airports.length c_a_airports), (Value.slice a_a_classes a.classes.length c_a_classes), (Value.slice a_a_rules a.rules.length c_a_rules)]) (i := 0) ty22 hs4 rfl rfl rfl ?_)
   refine Rg_opg rfl rfl rfl (op_len Try.underlying22 rfl ?_)
   refine Rg_opg rfl rfl rfl (op_gtr rfl rfl ?_)
   refine Rg_op rfl (op_pick_f (v := (Value.bool (decide (64 < (a.volumes.length : Int))))) rfl rfl ?_)
   refine Rg_op rfl (op_move (v := (Value.bool (decide (64 < (a.volumes.length : Int))))) rfl ?_)
   refine Rg_case (fun hg260 => ?_) (fun hg260 => ?_)
   ·
    replace hm := bif_t hm hg260
    iterate 4 refine Rg_opx rfl (asB_ne rfl rfl) rfl ?_
    refine Rg_op rfl (op_pick_t (v := (Value.bool true)) rfl rfl ?_)
    refine Rg_op rfl (op_move (v := (Value.bool true)) rfl ?_)
    iterate 4 refine Rg_opx rfl (asB_ne rfl rfl) rfl ?_
    refine Rg_op rfl (op_pick_t (v := (Value.bool true)) rfl rfl ?_)
    refine Rg_op rfl (op_move (v := (Value.bool true)) rfl ?_)
    iterate 4 refine Rg_opx rfl (asB_ne rfl rfl) rfl ?_
    refine Rg_op rfl (op_pick_t (v := (Value.bool true)) rfl rfl ?_)
    refine Rg_nil ?_
    exact hK10 _ _ ⟨true, _, rfl, ⟨(by repeat (first | with_reducible exact Out.refl _ _ | refine Out.upd ?_ rfl | refine Out.updL ?_ rfl | refine Out.mix' ?_ rfl | exact Out.refl _ _)), rfl, rfl, trivial⟩, ch258, hs4, hm⟩
   ·
    replace hm := bif_f hm hg260
    refine Rg_opg rfl rfl rfl (op_fieldAddr ty31 rfl ty23 (by decide) rfl (rfl : _ = (⟨_, 1, none⟩ : Addr)) ?_)
    refine Rg_opg rfl rfl rfl (op_load (cs := [(Value.slice a_a_volumes a.volumes.length c_a_volumes), (Value.slice a_a_sectors a.sectors.length c_a_sectors), (Value.slice a_a_configs a.configs.length c_a_configs), (Value.slice a_a_segments a.segments.length c_a_segments), (Value.slice a_a_routes a.routes.length c_a_routes), (Value.slice a_a_airports a.airports.length c_a_airports), (Value.slice a_a_classes a.classes.length c_a_classes), (Value.slice a_a_rules a.rules.length c_a_rules)]) (i := 0) ty23 hs4 rfl rfl rfl ?_)
    refine Rg_opg rfl rfl rfl (op_len Try.underlying23 rfl ?_)
    refine Rg_opg rfl rfl rfl (op_gtr rfl rfl ?_)
    refine Rg_op rfl (op_pick_f (v := (Value.bool (decide (64 < (a.sectors.length : Int))))) rfl rfl ?_)
    refine Rg_op rfl (op_move (v := (Value.bool (decide (64 < (a.sectors.length : Int))))) rfl ?_)
    refine Rg_case (fun hg261 => ?_) (fun hg261 => ?_)
    ·
     replace hm := bif_t hm hg261
     iterate 4 refine Rg_opx rfl (asB_ne rfl rfl) rfl ?_
     refine Rg_op rfl (op_pick_t (v := (Value.bool true)) rfl rfl ?_)
     refine Rg_op rfl (op_move (v := (Value.bool true)) rfl ?_)
     iterate 4 refine Rg_opx rfl (asB_ne rfl rfl) rfl ?_
     refine Rg_op rfl (op_pick_t (v := (Value.bool true)) rfl rfl ?_)
     refine Rg_nil ?_
     exact hK10 _ _ ⟨true, _, rfl, ⟨(by repeat (first | with_reducible exact Out.refl _ _ | refine Out.upd ?_ rfl | refine Out.updL ?_ rfl | refine Out.mix' ?_ rfl | exact Out.refl _ _)), rfl, rfl, trivial⟩, ch258, hs4, hm⟩
    ·
     replace hm := bif_f hm hg261
     refine Rg_opg rfl rfl rfl (op_fieldAddr ty31 rfl ty24 (by decide) rfl (rfl : _ = (⟨_, 2, none⟩ : Addr)) ?_)
     refine Rg_opg rfl rfl rfl (op_load (cs := [(Value.slice a_a_volumes a.volumes.length c_a_volumes), (Value.slice a_a_sectors a.sectors.length c_a_sectors), (Value.slice a_a_configs a.configs.length c_a_configs), (Value.slice a_a_segments a.segments.length c_a_segments), (Value.slice a_a_routes a.routes.length c_a_routes), (Value.slice a_a_airports a.airports.length c_a_airports), (Value.slice a_a_classes a.classes.length c_a_classes), (Value.slice a_a_rules a.rules.length c_a_rules)]) (i := 0) ty24 hs4 rfl rfl rfl ?_)
     refine Rg_opg rfl rfl rfl (op_len Try.underlying24 rfl ?_)
     refine Rg_opg rfl rfl rfl (op_lss rfl rfl ?_)
     refine Rg_op rfl (op_pick_f (v := (Value.bool (decide ((a.configs.length : Int) < 1)))) rfl rfl ?_)
     refine Rg_op rfl (op_move (v := (Value.bool (decide ((a.configs.length : Int) < 1)))) rfl ?_)
     refine Rg_case (fun hg262 => ?_) (fun hg262 => ?_)
     ·
      replace hm := bif_t hm hg262
      iterate 4 refine Rg_opx rfl (asB_ne rfl rfl) rfl ?_
      refine Rg_op rfl (op_pick_t (v := (Value.bool true)) rfl rfl ?_)
      refine Rg_nil ?_
      exact hK10 _ _ ⟨true, _, rfl, ⟨(by repeat (first | with_reducible exact Out.refl _ _ | refine Out.upd ?_ rfl | refine Out.updL ?_ rfl | refine Out.mix' ?_ rfl | exact Out.refl _ _)), rfl, rfl, trivial⟩, ch258, hs4, hm⟩
     ·
      replace hm := bif_f hm hg262
      refine Rg_opg rfl rfl rfl (op_fieldAddr ty31 rfl ty24 (by decide) rfl (rfl : _ = (⟨_, 2, none⟩ : Addr)) ?_)
      refine Rg_opg rfl rfl rfl (op_load (cs := [(Value.slice a_a_volumes a.volumes.length c_a_volumes), (Value.slice a_a_sectors a.sectors.length c_a_sectors), (Value.slice a_a_configs a.configs.length c_a_configs), (Value.slice a_a_segments a.segments.length c_a_segments), (Value.slice a_a_routes a.routes.length c_a_routes), (Value.slice a_a_airports a.airports.length c_a_airports), (Value.slice a_a_classes a.classes.length c_a_classes), (Value.slice a_a_rules a.rules.length c_a_rules)]) (i := 0) ty24 hs4 rfl rfl rfl ?_)
      refine Rg_opg rfl rfl rfl (op_len Try.underlying24 rfl ?_)
      refine Rg_opg rfl rfl rfl (op_gtr rfl rfl ?_)
      refine Rg_op rfl (op_pick_f (v := (Value.bool (decide (32 < (a.configs.length : Int))))) rfl rfl ?_)
      refine Rg_nil ?_
      exact hK10 _ _ ⟨(decide (32 < (a.configs.length : Int))), _, rfl, ⟨(by repeat (first | with_reducible exact Out.refl _ _ | refine Out.upd ?_ rfl | refine Out.updL ?_ rfl | refine Out.mix' ?_ rfl | exact Out.refl _ _)), rfl, rfl, trivial⟩, ch258, hs4, hm⟩

end Go.Fx



set_option linter.unusedVariables false
set_option linter.unusedSimpArgs false
set_option maxRecDepth 100000
set_option maxHeartbeats 0
namespace Go.Fx
open Go Go.RowKit Go.Proofs
def m3_overflightlaw10_ConfigsCheckSpec (a : XAirspace) (konfig : Int) (volume : Int) : Option Bool :=
 (m11_overflightlaw10_sane).bind fun sane_1 =>
 bif (!sane_1) then
  some false
 else
  (m12_overflightref10_Few a).bind fun few_1 =>
  bif (!few_1) then
   some true
  else
   (m13_configs_Sector a konfig volume).bind fun sector_1 =>
   (m14_overflightref10_Sector a konfig volume).bind fun sector_2 =>
   bif (decide (sector_1.1 = sector_2.1)) then
    bif (sector_1.2 == sector_2.2) then
     (m15_configs_Check a).bind fun check_1 =>
     (m16_overflightref10_Check a).bind fun check_2 =>
     some (decide (check_1 = check_2))
    else
     some false
   else
    some false

theorem c3_overflightlaw10_ConfigsCheckSpec {w : World} {O : List Nat} {a : XAirspace} {konfig : Int} {volume : Int} {a_a_volumes : Option Addr} {c_a_volumes : Nat} {a_a_sectors : Option Addr} {c_a_sectors : Nat} {a_a_configs : Option Addr} {c_a_configs : Nat} {a_a_segments : Option Addr} {c_a_segments : Nat} {a_a_routes : Option Addr} {c_a_routes : Nat} {a_a_airports : Option Addr} {c_a_airports : Nat} {a_a_classes : Option Addr} {c_a_classes : Nat} {a_a_rules : Option Addr} {c_a_rules : Nat} (hO : ∀ k ∈ O, k < w.heap.size) (f_a_volumes : SlR rXVolume w O a_a_volumes c_a_volumes a.volumes) (f_a_sectors : SlR rXSector w O a_a_sectors c_a_sectors a.sectors) (f_a_configs : SlR rXConfig w O a_a_configs c_a_configs a.configs) (f_a_segments : SlR rXSegment w O a_a_segments c_a_segments a.segments) (f_a_routes : SlR rXRoute w O a_a_routes c_a_routes a.routes) (f_a_airports : SlR rXAirport w O a_a_airports c_a_airports a.airports) (f_a_classes : SlR rXClass w O a_a_classes c_a_classes a.classes) (f_a_rules : SlR rXRule w O a_a_rules c_a_rules a.rules) (r_config : InK .i64 konfig) (r_volume : InK .i64 volume) {x : Bool} (hm : m3_overflightlaw10_ConfigsCheckSpec a konfig volume = some x) :
  Ok Try.prog 3 [(Value.agg [(Value.slice a_a_volumes a.volumes.length c_a_volumes), (Value.slice a_a_sectors a.sectors.length c_a_sectors), (Value.slice a_a_configs a.configs.length c_a_configs), (Value.slice a_a_segments a.segments.length c_a_segments), (Value.slice a_a_routes a.routes.length c_a_routes), (Value.slice a_a_airports a.airports.length c_a_airports), (Value.slice a_a_classes a.classes.length c_a_classes), (Value.slice a_a_rules a.rules.length c_a_rules)].toArray), (Value.int .i64 konfig), (Value.int .i64 volume)] w O vB x := by
 unfold m3_overflightlaw10_ConfigsCheckSpec at hm
 refine Fn_of_Wp (n := 45) (xs := [.tmp 6]) Try.func3 rfl Try.ntmps3 Try.results3 rfl ?_
 have hs := St.start hO
 refine Wp_seq ?_
 refine Wp_region ?_
 refine Rg_op rfl (op_box (cs := [(Value.slice a_a_volumes a.volumes.length c_a_volumes), (Value.slice a_a_sectors a.sectors.length c_a_sectors), (Value.slice a_a_configs a.configs.length c_a_configs), (Value.slice a_a_segments a.segments.length c_a_segments), (Value.slice a_a_routes a.routes.length c_a_routes), (Value.slice a_a_airports a.airports.length c_a_airports), (Value.slice a_a_classes a.classes.length c_a_classes), (Value.slice a_a_rules a.rules.length c_a_rules)]) hs rfl rfl ?_)
 intro b1 w2 _ p3 hs4
 replace f_a_volumes := f_a_volumes.step p3
 replace f_a_sectors := f_a_sectors.step p3
 replace f_a_configs := f_a_configs.step p3
 replace f_a_segments := f_a_segments.step p3
 replace f_a_routes := f_a_routes.step p3
 replace f_a_airports := f_a_airports.step p3
 replace f_a_classes := f_a_classes.step p3
 replace f_a_rules := f_a_rules.step p3
 clear p3
 refine Rg_op rfl (op_assign (v := (Value.bool false)) rfl ?_)
 refine Rg_nil ?_
 refine Wp_seq ?_
 refine Wp_seq ?_
 refine Wp_region ?_
 replace hm := bd hm; obtain ⟨sane_1, hv6, hm⟩ := hm
 refine Rg_op rfl (op_call Try.call11 (c11_overflightlaw10_sane  hs4.ltw  hv6) rfl ?_)
 rintro v7 w8 ⟨hx9, h10⟩
 have hs11 := hs4.call hx9
 have p12 := Step.ext (O := ks [(some b1, Obj.cells [(Value.slice a_a_volumes a.volumes.length c_a_volumes), (Value.slice a_a_sectors a.sectors.length c_a_sectors), (Value.slice a_a_configs a.configs.length c_a_configs), (Value.slice a_a_segments a.segments.length c_a_segments), (Value.slice a_a_routes a.routes.length c_a_routes), (Value.slice a_a_airports a.airports.length c_a_airports), (Value.slice a_a_classes a.classes.length c_a_classes), (Value.slice a_a_rules a.rules.length c_a_rules)].toArray 31)] O) hx9
 clear hx9
 replace f_a_volumes := f_a_volumes.step p12
 replace f_a_sectors := f_a_sectors.step p12
 replace f_a_configs := f_a_configs.step p12
 replace f_a_segments := f_a_segments.step p12
 replace f_a_routes := f_a_routes.step p12
 replace f_a_airports := f_a_airports.step p12
 replace f_a_classes := f_a_classes.step p12
 replace f_a_rules := f_a_rules.step p12
 clear p12 hs4
 obtain rfl := h10
 refine Rg_op rfl (op_not rfl ?_)
 refine Rg_nil ?_
 refine Wp_cond rfl (fun hc14 => ?_) (fun hc14 => ?_)
 ·
  replace hm := bif_t hm hc14
  refine Wp_seq ?_
  obtain ⟨hs15, p16⟩ := hs11.sub (bs' := []) (.cons _ List.Sublist.slnil)
  clear f_a_volumes f_a_sectors f_a_configs f_a_segments f_a_routes f_a_airports f_a_classes f_a_rules
  clear p16 hs11
  refine Wp_region ?_
  refine Rg_op rfl (op_assign (v := (Value.bool false)) rfl ?_)
  refine Rg_nil ?_
  refine Wp_ret ?_
  have hz := step_all hs15
  refine ⟨_, (show Closes [] _ _ from rfl), [(Value.bool false)], ⟨rfl, trivial⟩, hs15.ext, ?_⟩
  exact Vr.eq (a := vB) (x := false) rfl (Option.some.inj hm)
 ·
  replace hm := bif_f hm hc14
  refine Wp_skip ?_
  refine Wp_seq ?_
  refine Wp_seq ?_
  refine Wp_region ?_
  refine Rg_op rfl (op_loadA (cs := [(Value.slice a_a_volumes a.volumes.length c_a_volumes), (Value.slice a_a_sectors a.sectors.length c_a_sectors), (Value.slice a_a_configs a.configs.length c_a_configs), (Value.slice a_a_segments a.segments.length c_a_segments), (Value.slice a_a_routes a.routes.length c_a_routes), (Value.slice a_a_airports a.airports.length c_a_airports), (Value.slice a_a_classes a.classes.length c_a_classes), (Value.slice a_a_rules a.rules.length c_a_rules)]) (vs := [(Value.slice a_a_volumes a.volumes.length c_a_volumes), (Value.slice a_a_sectors a.sectors.length c_a_sectors), (Value.slice a_a_configs a.configs.length c_a_configs), (Value.slice a_a_segments a.segments.length c_a_segments), (Value.slice a_a_routes a.routes.length c_a_routes), (Value.slice a_a_airports a.airports.length c_a_airports), (Value.slice a_a_classes a.classes.length c_a_classes), (Value.slice a_a_rules a.rules.length c_a_rules)]) (i := 0) ty31 hs11 rfl rfl rfl rfl ?_)
  replace hm := bd hm; obtain ⟨few_1, hv17, hm⟩ := hm
  refine Rg_op rfl (op_call Try.call12 (c12_overflightref10_Few (a := a) hs11.ltw f_a_volumes f_a_sectors f_a_configs f_a_segments f_a_routes f_a_airports f_a_classes f_a_rules hv17) rfl ?_)
  rintro v18 w19 ⟨hx20, h21⟩
  have hs22 := hs11.call hx20
  have p23 := Step.ext (O := ks [(some b1, Obj.cells [(Value.slice a_a_volumes a.volumes.length c_a_volumes), (Value.slice a_a_sectors a.sectors.length c_a_sectors), (Value.slice a_a_configs a.configs.length c_a_configs), (Value.slice a_a_segments a.segments.length c_a_segments), (Value.slice a_a_routes a.routes.length c_a_routes), (Value.slice a_a_airports a.airports.length c_a_airports), (Value.slice a_a_classes a.classes.length c_a_classes), (Value.slice a_a_rules a.rules.length c_a_rules)].toArray 31)] O) hx20
  clear hx20
  replace f_a_volumes := f_a_volumes.step p23
  replace f_a_sectors := f_a_sectors.step p23
  replace f_a_configs := f_a_configs.step p23
  replace f_a_segments := f_a_segments.step p23
  replace f_a_routes := f_a_routes.step p23
  replace f_a_airports := f_a_airports.step p23
  replace f_a_classes := f_a_classes.step p23
  replace f_a_rules := f_a_rules.step p23
  clear p23 hs11
  obtain rfl := h21
  refine Rg_op rfl (op_not rfl ?_)
  refine Rg_nil ?_
  refine Wp_cond rfl (fun hc25 => ?_) (fun hc25 => ?_)
  ·
   replace hm := bif_t hm hc25
   refine Wp_seq ?_
   obtain ⟨hs26, p27⟩ := hs22.sub (bs' := []) (.cons _ List.Sublist.slnil)
   clear f_a_volumes f_a_sectors f_a_configs f_a_segments f_a_routes f_a_airports f_a_classes f_a_rules
   clear p27 hs22
   refine Wp_region ?_
   refine Rg_op rfl (op_assign (v := (Value.bool true)) rfl ?_)
   refine Rg_nil ?_
   refine Wp_ret ?_
   have hz := step_all hs26
   refine ⟨_, (show Closes [] _ _ from rfl), [(Value.bool true)], ⟨rfl, trivial⟩, hs26.ext, ?_⟩
   exact Vr.eq (a := vB) (x := true) rfl (Option.some.inj hm)
  ·
   replace hm := bif_f hm hc25
   refine Wp_skip ?_
   refine Wp_seq ?_
   refine Wp_region ?_
   refine Rg_op rfl (op_loadA (cs := [(Value.slice a_a_volumes a.volumes.length c_a_volumes), (Value.slice a_a_sectors a.sectors.length c_a_sectors), (Value.slice a_a_configs a.configs.length c_a_configs), (Value.slice a_a_segments a.segments.length c_a_segments), (Value.slice a_a_routes a.routes.length c_a_routes), (Value.slice a_a_airports a.airports.length c_a_airports), (Value.slice a_a_classes a.classes.length c_a_classes), (Value.slice a_a_rules a.rules.length c_a_rules)]) (vs := [(Value.slice a_a_volumes a.volumes.length c_a_volumes), (Value.slice a_a_sectors a.sectors.length c_a_sectors), (Value.slice a_a_configs a.configs.length c_a_configs), (Value.slice a_a_segments a.segments.length c_a_segments), (Value.slice a_a_routes a.routes.length c_a_routes), (Value.slice a_a_airports a.airports.length c_a_airports), (Value.slice a_a_classes a.classes.length c_a_classes), (Value.slice a_a_rules a.rules.length c_a_rules)]) (i := 0) ty31 hs22 rfl rfl rfl rfl ?_)
   refine Rg_op rfl (op_move (v := (Value.int .i64 konfig)) rfl ?_)
   refine Rg_op rfl (op_move (v := (Value.int .i64 volume)) rfl ?_)
   replace hm := bd hm; obtain ⟨sector_1, hv28, hm⟩ := hm
   refine Rg_op rfl (op_call Try.call13 (c13_configs_Sector (a := a) (konfig := konfig) (volume := volume) hs22.ltw f_a_volumes f_a_sectors f_a_configs f_a_segments f_a_routes f_a_airports f_a_classes f_a_rules r_config r_volume hv28) rfl ?_)
   rintro v29 w30 ⟨hx31, h32⟩
   have hs33 := hs22.call hx31
   have p34 := Step.ext (O := ks [(some b1, Obj.cells [(Value.slice a_a_volumes a.volumes.length c_a_volumes), (Value.slice a_a_sectors a.sectors.length c_a_sectors), (Value.slice a_a_configs a.configs.length c_a_configs), (Value.slice a_a_segments a.segments.length c_a_segments), (Value.slice a_a_routes a.routes.length c_a_routes), (Value.slice a_a_airports a.airports.length c_a_airports), (Value.slice a_a_classes a.classes.length c_a_classes), (Value.slice a_a_rules a.rules.length c_a_rules)].toArray 31)] O) hx31
   clear hx31
   replace f_a_volumes := f_a_volumes.step p34
   replace f_a_sectors := f_a_sectors.step p34
   replace f_a_configs := f_a_configs.step p34
   replace f_a_segments := f_a_segments.step p34
   replace f_a_routes := f_a_routes.step p34
   replace f_a_airports := f_a_airports.step p34
   replace f_a_classes := f_a_classes.step p34
   replace f_a_rules := f_a_rules.step p34
   clear p34 hs22
   obtain ⟨v35, v36, rfl, h37, h38⟩ := h32
   obtain ⟨rfl, r_y39⟩ := h37
   obtain rfl := h38
   refine Rg_op rfl (op_move (v := (Value.tuple [(Value.int .i64 sector_1.1), (Value.bool sector_1.2)].toArray)) rfl ?_)
   refine Rg_op rfl (op_extract (v := (Value.int .i64 sector_1.1)) rfl rfl ?_)
   refine Rg_op rfl (op_extract (v := (Value.bool sector_1.2)) rfl rfl ?_)
   refine Rg_op rfl (op_assign (v := (Value.int .i64 sector_1.1)) rfl ?_)
   refine Rg_op rfl (op_assign (v := (Value.bool sector_1.2)) rfl ?_)
   refine Rg_nil ?_
   refine Wp_seq ?_
   refine Wp_region ?_
   refine Rg_op rfl (op_loadA (cs := [(Value.slice a_a_volumes a.volumes.length c_a_volumes), (Value.slice a_a_sectors a.sectors.length c_a_sectors), (Value.slice a_a_configs a.configs.length c_a_configs), (Value.slice a_a_segments a.segments.length c_a_segments), (Value.slice a_a_routes a.routes.length c_a_routes), (Value.slice a_a_airports a.airports.length c_a_airports), (Value.slice a_a_classes a.classes.length c_a_classes), (Value.slice a_a_rules a.rules.length c_a_rules)]) (vs := [(Value.slice a_a_volumes a.volumes.length c_a_volumes), (Value.slice a_a_sectors a.sectors.length c_a_sectors), (Value.slice a_a_configs a.configs.length c_a_configs), (Value.slice a_a_segments a.segments.length c_a_segments), (Value.slice a_a_routes a.routes.length c_a_routes), (Value.slice a_a_airports a.airports.length c_a_airports), (Value.slice a_a_classes a.classes.length c_a_classes), (Value.slice a_a_rules a.rules.length c_a_rules)]) (i := 0) ty31 hs33 rfl rfl rfl rfl ?_)
   refine Rg_op rfl (op_move (v := (Value.int .i64 konfig)) rfl ?_)
   refine Rg_op rfl (op_move (v := (Value.int .i64 volume)) rfl ?_)
   replace hm := bd hm; obtain ⟨sector_2, hv41, hm⟩ := hm
   refine Rg_op rfl (op_call Try.call14 (c14_overflightref10_Sector (a := a) (konfig := konfig) (volume := volume) hs33.ltw f_a_volumes f_a_sectors f_a_configs f_a_segments f_a_routes f_a_airports f_a_classes f_a_rules r_config r_volume hv41) rfl ?_)
   rintro v42 w43 ⟨hx44, h45⟩
   have hs46 := hs33.call hx44
   have p47 := Step.ext (O := ks [(some b1, Obj.cells [(Value.slice a_a_volumes a.volumes.length c_a_volumes), (Value.slice a_a_sectors a.sectors.length c_a_sectors), (Value.slice a_a_configs a.configs.length c_a_configs), (Value.slice a_a_segments a.segments.length c_a_segments), (Value.slice a_a_routes a.routes.length c_a_routes), (Value.slice a_a_airports a.airports.length c_a_airports), (Value.slice a_a_classes a.classes.length c_a_classes), (Value.slice a_a_rules a.rules.length c_a_rules)].toArray 31)] O) hx44
   clear hx44
   replace f_a_volumes := f_a_volumes.step p47
   replace f_a_sectors := f_a_sectors.step p47
   replace f_a_configs := f_a_configs.step p47
   replace f_a_segments := f_a_segments.step p47
   replace f_a_routes := f_a_routes.step p47
   replace f_a_airports := f_a_airports.step p47
   replace f_a_classes := f_a_classes.step p47
   replace f_a_rules := f_a_rules.step p47
   clear p47 hs33
   obtain ⟨v48, v49, rfl, h50, h51⟩ := h45
   obtain ⟨rfl, r_y52⟩ := h50
   obtain rfl := h51
   refine Rg_op rfl (op_move (v := (Value.tuple [(Value.int .i64 sector_2.1), (Value.bool sector_2.2)].toArray)) rfl ?_)
   refine Rg_op rfl (op_extract (v := (Value.int .i64 sector_2.1)) rfl rfl ?_)
   refine Rg_op rfl (op_extract (v := (Value.bool sector_2.2)) rfl rfl ?_)
   refine Rg_op rfl (op_assign (v := (Value.int .i64 sector_2.1)) rfl ?_)
   refine Rg_op rfl (op_assign (v := (Value.bool sector_2.2)) rfl ?_)
   refine Rg_nil ?_
   refine Wp_seq ?_
   refine Wp_reset [] [(3, (Value.pointer (some ⟨b1, 0, none⟩))), (7, (Value.int .i64 sector_1.1)), (8, (Value.bool sector_1.2)), (9, (Value.int .i64 sector_2.1)), (10, (Value.bool sector_2.2))] rfl ⟨rfl, rfl, rfl, rfl, rfl, trivial⟩ fun ξ54 => ?_
   refine Wp_drawR (g0 := []) (m := 12) (fl := []) (TS_inv hs46) (.inl rfl) rfl (by decide +kernel) ?_  -- 7
   refine Dw_eq (Value.int .i64 sector_1.1) (fun ρ55 w56 g hle hi ht => ?_) ?_
   ·
    obtain ⟨-, hst, -⟩ := hle
    refine StepOp_plain (op_move (v := (Value.int .i64 sector_1.1)) (ht 7 rfl) ?_)
    exact Goes.same hi rfl
   refine Dw_eq (Value.int .i64 sector_2.1) (fun ρ58 w59 g hle hi ht => ?_) ?_
   ·
    obtain ⟨-, hst, -⟩ := hle
    refine StepOp_plain (op_move (v := (Value.int .i64 sector_2.1)) (ht 9 rfl) ?_)
    exact Goes.same hi rfl
   refine Dw_eq (Value.bool (decide (sector_1.1 = sector_2.1))) (fun ρ61 w62 g hle hi ht => ?_) ?_
   ·
    obtain ⟨-, hst, -⟩ := hle
    refine StepOp_plain (op_eql (ht 30 rfl) (ht 31 rfl) ?_)
    exact Goes.same hi rfl
   refine Dw_opB (decide (sector_1.1 = sector_2.1)) (fun ρ64 w65 g hle hi ht => ?_) (fun hg67 => ?_) (fun hg67 => ?_)
   ·
    obtain ⟨-, hst, -⟩ := hle
    refine StepOp_plain (op_move (v := (Value.bool (decide (sector_1.1 = sector_2.1)))) (ht 32 rfl) ?_)
    exact Goes.same hi rfl
   ·
    replace hm := bif_t hm hg67
    refine Dw_eq (Value.bool sector_1.2) (fun ρ68 w69 g hle hi ht => ?_) ?_
    ·
     obtain ⟨-, hst, -⟩ := hle
     refine StepOp_g rfl (ht 33 rfl) (op_move (v := (Value.bool sector_1.2)) (ht 8 rfl) ?_)
     exact Goes.same hi rfl
    refine Dw_eq (Value.bool sector_2.2) (fun ρ71 w72 g hle hi ht => ?_) ?_
    ·
     obtain ⟨-, hst, -⟩ := hle
     refine StepOp_g rfl (ht 33 rfl) (op_move (v := (Value.bool sector_2.2)) (ht 10 rfl) ?_)
     exact Goes.same hi rfl
    refine Dw_eq (Value.bool (sector_1.2 == sector_2.2)) (fun ρ74 w75 g hle hi ht => ?_) ?_
    ·
     obtain ⟨-, hst, -⟩ := hle
     refine StepOp_g rfl (ht 33 rfl) (op_eqb Try.underlying4 (ht 34 rfl) (ht 35 rfl) ?_)
     exact Goes.same hi rfl
    refine Dw_eq (Value.bool (sector_1.2 == sector_2.2)) (fun ρ77 w78 g hle hi ht => ?_) ?_
    ·
     obtain ⟨-, hst, -⟩ := hle
     refine StepOp_plain (op_pick_t (v := (Value.bool (sector_1.2 == sector_2.2))) (ht 33 rfl) (ht 36 rfl) ?_)
     exact Goes.same hi rfl
    refine Dw_opB (sector_1.2 == sector_2.2) (fun ρ80 w81 g hle hi ht => ?_) (fun hg83 => ?_) (fun hg83 => ?_)
    ·
     obtain ⟨-, hst, -⟩ := hle
     refine StepOp_plain (op_move (v := (Value.bool (sector_1.2 == sector_2.2))) (ht 37 rfl) ?_)
     exact Goes.same hi rfl
    ·
     replace hm := bif_t hm hg83
     refine Dw_eq (Value.agg [(Value.slice a_a_volumes a.volumes.length c_a_volumes), (Value.slice a_a_sectors a.sectors.length c_a_sectors), (Value.slice a_a_configs a.configs.length c_a_configs), (Value.slice a_a_segments a.segments.length c_a_segments), (Value.slice a_a_routes a.routes.length c_a_routes), (Value.slice a_a_airports a.airports.length c_a_airports), (Value.slice a_a_classes a.classes.length c_a_classes), (Value.slice a_a_rules a.rules.length c_a_rules)].toArray) (fun ρ84 w85 g hle hi ht => ?_) ?_
     ·
      obtain ⟨-, hst, -⟩ := hle
      have hsn := (Step.nx hi).1
      refine StepOp_g rfl (ht 38 rfl) (op_loadA (cs := [(Value.slice a_a_volumes a.volumes.length c_a_volumes), (Value.slice a_a_sectors a.sectors.length c_a_sectors), (Value.slice a_a_configs a.configs.length c_a_configs), (Value.slice a_a_segments a.segments.length c_a_segments), (Value.slice a_a_routes a.routes.length c_a_routes), (Value.slice a_a_airports a.airports.length c_a_airports), (Value.slice a_a_classes a.classes.length c_a_classes), (Value.slice a_a_rules a.rules.length c_a_rules)]) (vs := [(Value.slice a_a_volumes a.volumes.length c_a_volumes), (Value.slice a_a_sectors a.sectors.length c_a_sectors), (Value.slice a_a_configs a.configs.length c_a_configs), (Value.slice a_a_segments a.segments.length c_a_segments), (Value.slice a_a_routes a.routes.length c_a_routes), (Value.slice a_a_airports a.airports.length c_a_airports), (Value.slice a_a_classes a.classes.length c_a_classes), (Value.slice a_a_rules a.rules.length c_a_rules)]) (i := 0) ty31 hsn (ht 3 rfl) rfl rfl rfl ?_)
      exact Goes.same hi rfl
     replace hm := bd hm; obtain ⟨check_1, hv90, hm⟩ := hm
     refine Dw_op (VD O [(some b1, Obj.cells [(Value.slice a_a_volumes a.volumes.length c_a_volumes), (Value.slice a_a_sectors a.sectors.length c_a_sectors), (Value.slice a_a_configs a.configs.length c_a_configs), (Value.slice a_a_segments a.segments.length c_a_segments), (Value.slice a_a_routes a.routes.length c_a_routes), (Value.slice a_a_airports a.airports.length c_a_airports), (Value.slice a_a_classes a.classes.length c_a_classes), (Value.slice a_a_rules a.rules.length c_a_rules)].toArray 31)] (vI .i64) check_1) (VD.stab _ _) (fun ρ87 w88 g hle hi ht => ?_) ?_
     ·
      obtain ⟨-, hst, -⟩ := hle
      replace f_a_volumes := f_a_volumes.step hst
      replace f_a_sectors := f_a_sectors.step hst
      replace f_a_configs := f_a_configs.step hst
      replace f_a_segments := f_a_segments.step hst
      replace f_a_routes := f_a_routes.step hst
      replace f_a_airports := f_a_airports.step hst
      replace f_a_classes := f_a_classes.step hst
      replace f_a_rules := f_a_rules.step hst
      refine StepOp_g rfl (ht 38 rfl) (op_call Try.call15 (c15_configs_Check (O := ks (ents g ++ [(some b1, Obj.cells [(Value.slice a_a_volumes a.volumes.length c_a_volumes), (Value.slice a_a_sectors a.sectors.length c_a_sectors), (Value.slice a_a_configs a.configs.length c_a_configs), (Value.slice a_a_segments a.segments.length c_a_segments), (Value.slice a_a_routes a.routes.length c_a_routes), (Value.slice a_a_airports a.airports.length c_a_airports), (Value.slice a_a_classes a.classes.length c_a_classes), (Value.slice a_a_rules a.rules.length c_a_rules)].toArray 31)]) O) (a := a) hi.ltw f_a_volumes f_a_sectors f_a_configs f_a_segments f_a_routes f_a_airports f_a_classes f_a_rules hv90) (by simp only [List.map, Array.toList, (show ev _ (.tmp 39) = _ from (ht 39 rfl))] <;> rfl) ?_)
      rintro v91 w92 ⟨hx93, h94⟩
      exact Goes.call hi hx93 h94
     refine Dw_eq (Value.agg [(Value.slice a_a_volumes a.volumes.length c_a_volumes), (Value.slice a_a_sectors a.sectors.length c_a_sectors), (Value.slice a_a_configs a.configs.length c_a_configs), (Value.slice a_a_segments a.segments.length c_a_segments), (Value.slice a_a_routes a.routes.length c_a_routes), (Value.slice a_a_airports a.airports.length c_a_airports), (Value.slice a_a_classes a.classes.length c_a_classes), (Value.slice a_a_rules a.rules.length c_a_rules)].toArray) (fun ρ96 w97 g hle hi ht => ?_) ?_
     ·
      obtain ⟨-, hst, -⟩ := hle
      have hsn := (Step.nx hi).1
      refine StepOp_g rfl (ht 38 rfl) (op_loadA (cs := [(Value.slice a_a_volumes a.volumes.length c_a_volumes), (Value.slice a_a_sectors a.sectors.length c_a_sectors), (Value.slice a_a_configs a.configs.length c_a_configs), (Value.slice a_a_segments a.segments.length c_a_segments), (Value.slice a_a_routes a.routes.length c_a_routes), (Value.slice a_a_airports a.airports.length c_a_airports), (Value.slice a_a_classes a.classes.length c_a_classes), (Value.slice a_a_rules a.rules.length c_a_rules)]) (vs := [(Value.slice a_a_volumes a.volumes.length c_a_volumes), (Value.slice a_a_sectors a.sectors.length c_a_sectors), (Value.slice a_a_configs a.configs.length c_a_configs), (Value.slice a_a_segments a.segments.length c_a_segments), (Value.slice a_a_routes a.routes.length c_a_routes), (Value.slice a_a_airports a.airports.length c_a_airports), (Value.slice a_a_classes a.classes.length c_a_classes), (Value.slice a_a_rules a.rules.length c_a_rules)]) (i := 0) ty31 hsn (ht 3 rfl) rfl rfl rfl ?_)
      exact Goes.same hi rfl
     refine Dw_nil fun w103 g104 hl105 hi106 => ?_
     obtain ⟨-, hst107, -⟩ := hl105
     obtain ⟨hs109, p108⟩ := Step.nx hi106
     rintro _ rfl
     rintro v110 h111
     replace h111 : Vr.vd (vI .i64) _ _ _ _ := h111
     obtain ⟨rfl, r_y112⟩ := h111
     rintro _ rfl
     rintro _ rfl
     rintro _ rfl
     rintro _ rfl
     rintro _ rfl
     rintro _ rfl
     rintro _ rfl
     rintro _ rfl
     rintro _ rfl
     rintro _ rfl
     have p113 : Step (ks [(some b1, Obj.cells [(Value.slice a_a_volumes a.volumes.length c_a_volumes), (Value.slice a_a_sectors a.sectors.length c_a_sectors), (Value.slice a_a_configs a.configs.length c_a_configs), (Value.slice a_a_segments a.segments.length c_a_segments), (Value.slice a_a_routes a.routes.length c_a_routes), (Value.slice a_a_airports a.airports.length c_a_airports), (Value.slice a_a_classes a.classes.length c_a_classes), (Value.slice a_a_rules a.rules.length c_a_rules)].toArray 31)] O) w43 (ks [(some b1, Obj.cells [(Value.slice a_a_volumes a.volumes.length c_a_volumes), (Value.slice a_a_sectors a.sectors.length c_a_sectors), (Value.slice a_a_configs a.configs.length c_a_configs), (Value.slice a_a_segments a.segments.length c_a_segments), (Value.slice a_a_routes a.routes.length c_a_routes), (Value.slice a_a_airports a.airports.length c_a_airports), (Value.slice a_a_classes a.classes.length c_a_classes), (Value.slice a_a_rules a.rules.length c_a_rules)].toArray 31)] O) w103 := hst107.trans p108
     replace f_a_volumes := f_a_volumes.step p113
     replace f_a_sectors := f_a_sectors.step p113
     replace f_a_configs := f_a_configs.step p113
     replace f_a_segments := f_a_segments.step p113
     replace f_a_routes := f_a_routes.step p113
     replace f_a_airports := f_a_airports.step p113
     replace f_a_classes := f_a_classes.step p113
     replace f_a_rules := f_a_rules.step p113
     clear p113 hs46
     replace hm := bd hm; obtain ⟨check_2, hv114, hm⟩ := hm
     refine Rg_opg rfl rfl rfl (op_call Try.call16 (c16_overflightref10_Check (a := a) hs109.ltw f_a_volumes f_a_sectors f_a_configs f_a_segments f_a_routes f_a_airports f_a_classes f_a_rules hv114) rfl ?_)
     rintro v115 w116 ⟨hx117, h118⟩
     have hs119 := hs109.call hx117
     have p120 := Step.ext (O := ks [(some b1, Obj.cells [(Value.slice a_a_volumes a.volumes.length c_a_volumes), (Value.slice a_a_sectors a.sectors.length c_a_sectors), (Value.slice a_a_configs a.configs.length c_a_configs), (Value.slice a_a_segments a.segments.length c_a_segments), (Value.slice a_a_routes a.routes.length c_a_routes), (Value.slice a_a_airports a.airports.length c_a_airports), (Value.slice a_a_classes a.classes.length c_a_classes), (Value.slice a_a_rules a.rules.length c_a_rules)].toArray 31)] O) hx117
     clear hx117
     replace f_a_volumes := f_a_volumes.step p120
     replace f_a_sectors := f_a_sectors.step p120
     replace f_a_configs := f_a_configs.step p120
     replace f_a_segments := f_a_segments.step p120
     replace f_a_routes := f_a_routes.step p120
     replace f_a_airports := f_a_airports.step p120
     replace f_a_classes := f_a_classes.step p120
     replace f_a_rules := f_a_rules.step p120
     clear p120 hs109
     obtain ⟨rfl, r_y121⟩ := h118
     refine Rg_opg rfl rfl rfl (op_eql rfl rfl ?_)
     refine Rg_op rfl (op_pick_t (v := (Value.bool (decide (check_1 = check_2)))) rfl rfl ?_)
     refine Rg_op rfl (op_assign (v := (Value.bool (decide (check_1 = check_2)))) rfl ?_)
     refine Rg_nil ?_
     refine Wp_ret ?_
     have hz := step_all hs119
     replace f_a_volumes := f_a_volumes.step hz
     replace f_a_sectors := f_a_sectors.step hz
     replace f_a_configs := f_a_configs.step hz
     replace f_a_segments := f_a_segments.step hz
     replace f_a_routes := f_a_routes.step hz
     replace f_a_airports := f_a_airports.step hz
     replace f_a_classes := f_a_classes.step hz
     replace f_a_rules := f_a_rules.step hz
     refine ⟨_, (show Closes [] _ _ from rfl), [(Value.bool (decide (check_1 = check_2)))], ⟨rfl, trivial⟩, hs119.ext, ?_⟩
     exact Vr.eq (a := vB) (x := (decide (check_1 = check_2))) rfl (Option.some.inj hm)
    ·
     replace hm := bif_f hm hg83
     refine Dw_skip (fun _ _ _ ht => wanted_x rfl (ht 38 rfl) rfl) ?_
     refine Dw_skip (fun _ _ _ ht => wanted_x rfl (ht 38 rfl) rfl) ?_
     refine Dw_skip (fun _ _ _ ht => wanted_x rfl (ht 38 rfl) rfl) ?_
     refine Dw_nil fun w126 g127 hl128 hi129 => ?_
     obtain ⟨-, hst130, -⟩ := hl128
     obtain ⟨hs132, p131⟩ := Step.nx hi129
     rintro _ rfl
     rintro _ rfl
     rintro _ rfl
     rintro _ rfl
     rintro _ rfl
     rintro _ rfl
     rintro _ rfl
     rintro _ rfl
     rintro _ rfl
     rintro _ rfl
     rintro _ rfl
     rintro _ rfl
     have p133 : Step (ks [(some b1, Obj.cells [(Value.slice a_a_volumes a.volumes.length c_a_volumes), (Value.slice a_a_sectors a.sectors.length c_a_sectors), (Value.slice a_a_configs a.configs.length c_a_configs), (Value.slice a_a_segments a.segments.length c_a_segments), (Value.slice a_a_routes a.routes.length c_a_routes), (Value.slice a_a_airports a.airports.length c_a_airports), (Value.slice a_a_classes a.classes.length c_a_classes), (Value.slice a_a_rules a.rules.length c_a_rules)].toArray 31)] O) w43 (ks [(some b1, Obj.cells [(Value.slice a_a_volumes a.volumes.length c_a_volumes), (Value.slice a_a_sectors a.sectors.length c_a_sectors), (Value.slice a_a_configs a.configs.length c_a_configs), (Value.slice a_a_segments a.segments.length c_a_segments), (Value.slice a_a_routes a.routes.length c_a_routes), (Value.slice a_a_airports a.airports.length c_a_airports), (Value.slice a_a_classes a.classes.length c_a_classes), (Value.slice a_a_rules a.rules.length c_a_rules)].toArray 31)] O) w126 := hst130.trans p131
     replace f_a_volumes := f_a_volumes.step p133
     replace f_a_sectors := f_a_sectors.step p133
     replace f_a_configs := f_a_configs.step p133
     replace f_a_segments := f_a_segments.step p133
     replace f_a_routes := f_a_routes.step p133
     replace f_a_airports := f_a_airports.step p133
     replace f_a_classes := f_a_classes.step p133
     replace f_a_rules := f_a_rules.step p133
     clear p133 hs46
     iterate 2 refine Rg_opx rfl (asB_ne rfl rfl) rfl ?_
     refine Rg_op rfl (op_pick_f (v := (Value.bool false)) rfl rfl ?_)
     refine Rg_op rfl (op_assign (v := (Value.bool false)) rfl ?_)
     refine Rg_nil ?_
     refine Wp_ret ?_
     have hz := step_all hs132
     replace f_a_volumes := f_a_volumes.step hz
     replace f_a_sectors := f_a_sectors.step hz
     replace f_a_configs := f_a_configs.step hz
     replace f_a_segments := f_a_segments.step hz
     replace f_a_routes := f_a_routes.step hz
     replace f_a_airports := f_a_airports.step hz
     replace f_a_classes := f_a_classes.step hz
     replace f_a_rules := f_a_rules.step hz
     refine ⟨_, (show Closes [] _ _ from rfl), [(Value.bool false)], ⟨rfl, trivial⟩, hs132.ext, ?_⟩
     exact Vr.eq (a := vB) (x := false) rfl (Option.some.inj hm)
   ·
    replace hm := bif_f hm hg67
    refine Dw_skip (fun _ _ _ ht => wanted_x rfl (ht 33 rfl) rfl) ?_
    refine Dw_skip (fun _ _ _ ht => wanted_x rfl (ht 33 rfl) rfl) ?_
    refine Dw_skip (fun _ _ _ ht => wanted_x rfl (ht 33 rfl) rfl) ?_
    refine Dw_eq (Value.bool false) (fun ρ134 w135 g hle hi ht => ?_) ?_
    ·
     obtain ⟨-, hst, -⟩ := hle
     refine StepOp_plain (op_pick_f (v := (Value.bool false)) (ht 33 rfl) rfl ?_)
     exact Goes.same hi rfl
    refine Dw_eq (Value.bool false) (fun ρ137 w138 g hle hi ht => ?_) ?_
    ·
     obtain ⟨-, hst, -⟩ := hle
     refine StepOp_plain (op_move (v := (Value.bool false)) (ht 37 rfl) ?_)
     exact Goes.same hi rfl
    refine Dw_skip (fun _ _ _ ht => wanted_x rfl (ht 38 rfl) rfl) ?_
    refine Dw_skip (fun _ _ _ ht => wanted_x rfl (ht 38 rfl) rfl) ?_
    refine Dw_skip (fun _ _ _ ht => wanted_x rfl (ht 38 rfl) rfl) ?_
    refine Dw_nil fun w144 g145 hl146 hi147 => ?_
    obtain ⟨-, hst148, -⟩ := hl146
    obtain ⟨hs150, p149⟩ := Step.nx hi147
    rintro _ rfl
    rintro _ rfl
    rintro _ rfl
    rintro _ rfl
    rintro _ rfl
    rintro _ rfl
    rintro _ rfl
    rintro _ rfl
    rintro _ rfl
    rintro _ rfl
    rintro _ rfl
    rintro _ rfl
    have p151 : Step (ks [(some b1, Obj.cells [(Value.slice a_a_volumes a.volumes.length c_a_volumes), (Value.slice a_a_sectors a.sectors.length c_a_sectors), (Value.slice a_a_configs a.configs.length c_a_configs), (Value.slice a_a_segments a.segments.length c_a_segments), (Value.slice a_a_routes a.routes.length c_a_routes), (Value.slice a_a_airports a.airports.length c_a_airports), (Value.slice a_a_classes a.classes.length c_a_classes), (Value.slice a_a_rules a.rules.length c_a_rules)].toArray 31)] O) w43 (ks [(some b1, Obj.cells [(Value.slice a_a_volumes a.volumes.length c_a_volumes), (Value.slice a_a_sectors a.sectors.length c_a_sectors), (Value.slice a_a_configs a.configs.length c_a_configs), (Value.slice a_a_segments a.segments.length c_a_segments), (Value.slice a_a_routes a.routes.length c_a_routes), (Value.slice a_a_airports a.airports.length c_a_airports), (Value.slice a_a_classes a.classes.length c_a_classes), (Value.slice a_a_rules a.rules.length c_a_rules)].toArray 31)] O) w144 := hst148.trans p149
    replace f_a_volumes := f_a_volumes.step p151
    replace f_a_sectors := f_a_sectors.step p151
    replace f_a_configs := f_a_configs.step p151
    replace f_a_segments := f_a_segments.step p151
    replace f_a_routes := f_a_routes.step p151
    replace f_a_airports := f_a_airports.step p151
    replace f_a_classes := f_a_classes.step p151
    replace f_a_rules := f_a_rules.step p151
    clear p151 hs46
    iterate 2 refine Rg_opx rfl (asB_ne rfl rfl) rfl ?_
    refine Rg_op rfl (op_pick_f (v := (Value.bool false)) rfl rfl ?_)
    refine Rg_op rfl (op_assign (v := (Value.bool false)) rfl ?_)
    refine Rg_nil ?_
    refine Wp_ret ?_
    have hz := step_all hs150
    replace f_a_volumes := f_a_volumes.step hz
    replace f_a_sectors := f_a_sectors.step hz
    replace f_a_configs := f_a_configs.step hz
    replace f_a_segments := f_a_segments.step hz
    replace f_a_routes := f_a_routes.step hz
    replace f_a_airports := f_a_airports.step hz
    replace f_a_classes := f_a_classes.step hz
    replace f_a_rules := f_a_rules.step hz
    refine ⟨_, (show Closes [] _ _ from rfl), [(Value.bool false)], ⟨rfl, trivial⟩, hs150.ext, ?_⟩
    exact Vr.eq (a := vB) (x := false) rfl (Option.some.inj hm)

end Go.Fx



/- What the models of functions compute: loops over lists, checks, meetings. No program in sight. -/
set_option linter.unusedSimpArgs false
set_option linter.unusedVariables false
namespace Go.Fx
open Go Go.RowKit

section
variable {R α σ : Type}
@[simp] theorem jn_eq {κ : Type _} (k : κ) (f : κ → Option R) : jn k f = f k := rfl
theorem ck_eq {c : Prop} [Decidable c] {m : Option R} (h : c) : ck c m = m := if_pos h
@[simp] theorem ck_True {m : Option R} : ck True m = m := if_pos trivial
theorem wrapN {i : Nat} (h : i < 9223372036854775808) : IntKind.i64.wrap (i : Int) = (i : Int) := wrap_i64 (by omega) (by omega)
theorem wrapS {i : Nat} (h : i + 1 < 9223372036854775808) : IntKind.i64.wrap ((i : Int) + 1) = (i : Int) + 1 := wrap_i64 (by omega) (by omega)
/-- a loop that goes up an index over a list: L fuel index state -/
theorem up_list {L : Nat → Int → σ → Option R} (I : Nat → σ → Prop) (F : Nat → List α → σ → Option R) (l : List α) (hl : l.length < 9223372036854775807)
    (hE : ∀ n s, I l.length s → L (n + 1) (l.length : Nat) s = F l.length [] s)
    (hS : ∀ n (i : Nat) s x t, i < l.length → l[i]? = some x → IntKind.i64.wrap ((i : Int) + 1) = (i : Int) + 1 → I i s →
      (∀ s, I (i + 1) s → L n ((i : Int) + 1) s = F (i + 1) t s) → L (n + 1) (i : Int) s = F i (x :: t) s) :
    ∀ (fuel : Nat) s, l.length < fuel → I 0 s → L fuel 0 s = F 0 l s := by
  have main : ∀ (t : List α) (i fuel : Nat) s, l.drop i = t → i ≤ l.length → l.length - i < fuel → I i s → L fuel (i : Int) s = F i t s := by
    intro t
    induction t with
    | nil =>
      intro i fuel s hd hi hf hI
      have : i = l.length := by have := congrArg List.length hd; simp at this; omega
      subst this
      obtain ⟨n, rfl⟩ : ∃ n, fuel = n + 1 := ⟨fuel - 1, by omega⟩
      exact hE n s hI
    | cons x t ih =>
      intro i fuel s hd hi hf hI
      have hlt : i < l.length := by have := congrArg List.length hd; simp at this; omega
      obtain ⟨n, rfl⟩ : ∃ n, fuel = n + 1 := ⟨fuel - 1, by omega⟩
      have hx : l[i]? = some x := by rw [← List.head?_drop, hd]; rfl
      refine hS n i s x t hlt hx (wrapS (by omega)) hI fun s' hI' => (ih (i + 1) n s' ?_ (by omega) (by omega) hI')
      rw [← List.drop_drop, hd]; rfl
  intro fuel s hf hI
  exact main l 0 fuel s rfl (by omega) (by omega) hI

theorem getD_of {l : List α} {i : Nat} {x d : α} (h : l[i]? = some x) : l.getD i d = x := by simp [List.getD, h]

/-- a loop that goes up an index over a list, no state -/
theorem up_list0 {B : (Int → Option R) → Int → Option R} (F : List α → Option R) (l : List α) (hl : l.length < 9223372036854775807)
    (hE : ∀ sf, B sf (l.length : Nat) = F [])
    (hS : ∀ sf (i : Nat) x t, i < l.length → l[i]? = some x → IntKind.i64.wrap ((i : Int) + 1) = (i : Int) + 1 →
      sf ((i : Int) + 1) = F t → B sf (i : Int) = F (x :: t))
    {fuel : Nat} (hf : l.length < fuel) : loop1 B fuel 0 = F l := by
  refine up_list (L := fun n i (_ : Unit) => loop1 B n i) (fun _ _ => True) (fun _ t _ => F t) l hl ?_ ?_ fuel () hf trivial
  · intro n _ _; show loop1 B (n + 1) _ = _; rw [loop1_succ]; exact hE _
  · intro n i _ x t h1 h2 h3 _ ih; show loop1 B (n + 1) _ = _; rw [loop1_succ]; exact hS _ i x t h1 h2 h3 (ih () trivial)
/-- a state first, then the index -/
theorem up_listB {B : (σ → Int → Option R) → σ → Int → Option R} (I : Nat → σ → Prop) (F : Nat → List α → σ → Option R) (l : List α) (hl : l.length < 9223372036854775807)
    (hE : ∀ sf s, I l.length s → B sf s (l.length : Nat) = F l.length [] s)
    (hS : ∀ sf (i : Nat) s x t, i < l.length → l[i]? = some x → IntKind.i64.wrap ((i : Int) + 1) = (i : Int) + 1 → I i s →
      (∀ s, I (i + 1) s → sf s ((i : Int) + 1) = F (i + 1) t s) → B sf s (i : Int) = F i (x :: t) s)
    {fuel : Nat} {s : σ} (hf : l.length < fuel) (hI : I 0 s) : loop2 B fuel s 0 = F 0 l s := by
  refine up_list (L := fun n i s => loop2 B n s i) I F l hl ?_ ?_ fuel s hf hI
  · intro n s h; show loop2 B (n + 1) _ _ = _; rw [loop2_succ]; exact hE _ _ h
  · intro n i s x t h1 h2 h3 h4 ih; show loop2 B (n + 1) _ _ = _; rw [loop2_succ]; exact hS _ i s x t h1 h2 h3 h4 ih

/-- the same, where the answer needs the index -/
theorem up_listI {B : (Int → Option R) → Int → Option R} (F : Nat → List α → Option R) (l : List α) (hl : l.length < 9223372036854775807)
    (hE : ∀ sf, B sf (l.length : Nat) = F l.length [])
    (hS : ∀ sf (i : Nat) x t, i < l.length → l[i]? = some x → IntKind.i64.wrap ((i : Int) + 1) = (i : Int) + 1 →
      sf ((i : Int) + 1) = F (i + 1) t → B sf (i : Int) = F i (x :: t))
    {fuel : Nat} (hf : l.length < fuel) : loop1 B fuel 0 = F 0 l := by
  refine up_list (L := fun n i (_ : Unit) => loop1 B n i) (fun _ _ => True) (fun i t _ => F i t) l hl ?_ ?_ fuel () hf trivial
  · intro n _ _; show loop1 B (n + 1) _ = _; rw [loop1_succ]; exact hE _
  · intro n i _ x t h1 h2 h3 _ ih; show loop1 B (n + 1) _ = _; rw [loop1_succ]; exact hS _ i x t h1 h2 h3 (ih () trivial)
end
end Go.Fx



/- Chapter 10, no program in sight: a search in breadth, and what it finds. -/
set_option linter.unusedSimpArgs false
set_option linter.unusedVariables false
namespace Go.Fx
open Go Go.RowKit
/-- a look at neighbour i of at -/
def bstep (adj : Nat → Nat → Bool) (c : Nat) (s : List Int × List Nat) (i : Nat) : List Int × List Nat :=
  bif adj c i && decide (s.1.getD i default < 0) then (s.1.set i (s.1.getD c default + 1), s.2 ++ [i]) else s
def vc (n : Nat) (d : List Int) : Nat := (List.range n).countP fun i => decide (0 ≤ d.getD i default)
/-- what is known while c's neighbours below m have been looked at -/
structure BJ (adj : Nat → Nat → Bool) (n to c m : Nat) (d : List Int) (q : List Nat) : Prop where
  len : d.length = n
  to0 : d.getD to default = 0
  tn : to < n
  ge : ∀ i < n, -1 ≤ d.getD i default
  bound : ∀ i < n, d.getD i default < vc n d
  qmem : ∀ x ∈ q, x < n ∧ 0 ≤ d.getD x default
  pred : ∀ i < n, 0 ≤ d.getD i default → i ≠ to → ∃ j < n, adj j i = true ∧ 0 ≤ d.getD j default ∧ d.getD i default = d.getD j default + 1
  cn : c < n
  cv : 0 ≤ d.getD c default
  cq : c ∉ q
  nd : q.Nodup
  near : ∀ i < n, 0 ≤ d.getD i default → i ∉ q → i ≠ c → ∀ j < n, adj i j = true → 0 ≤ d.getD j default ∧ d.getD j default ≤ d.getD i default + 1
  mid : ∀ j < m, adj c j = true → 0 ≤ d.getD j default
  low : ∀ x ∈ q, d.getD c default ≤ d.getD x default
  srt : q.Pairwise fun x y => d.getD x default ≤ d.getD y default
  top : ∀ x < n, d.getD x default ≤ d.getD c default + 1
structure BI (adj : Nat → Nat → Bool) (n to : Nat) (d : List Int) (q : List Nat) : Prop where
  len : d.length = n
  to0 : d.getD to default = 0
  tn : to < n
  ge : ∀ i < n, -1 ≤ d.getD i default
  bound : ∀ i < n, d.getD i default < vc n d
  qmem : ∀ x ∈ q, x < n ∧ 0 ≤ d.getD x default
  pred : ∀ i < n, 0 ≤ d.getD i default → i ≠ to → ∃ j < n, adj j i = true ∧ 0 ≤ d.getD j default ∧ d.getD i default = d.getD j default + 1
  nd : q.Nodup
  near : ∀ i < n, 0 ≤ d.getD i default → i ∉ q → ∀ j < n, adj i j = true → 0 ≤ d.getD j default ∧ d.getD j default ≤ d.getD i default + 1
  srt : q.Pairwise fun x y => d.getD x default ≤ d.getD y default
  top : ∀ h t, q = h :: t → ∀ x < n, d.getD x default ≤ d.getD h default + 1
variable {adj : Nat → Nat → Bool} {n to c m : Nat} {d : List Int} {q : List Nat}
theorem getD_setI {d : List Int} {i j : Nat} {v : Int} (h : i < d.length) : (d.set i v).getD j default = if i = j then v else d.getD j default := by
  by_cases e : i = j
  · subst e; simp [h]
  · simp [e, List.getElem?_set]
theorem countP_flip {l : List Nat} {p r : Nat → Bool} {i : Nat} (hn : l.Nodup) (hi : i ∈ l) (hp : p i = false) (hr : r i = true) (h : ∀ j, j ≠ i → r j = p j) : l.countP r = l.countP p + 1 := by
  obtain ⟨l1, l2, rfl⟩ := List.append_of_mem hi
  have h1 : i ∉ l1 := fun hm => by
    rw [List.nodup_append] at hn
    exact hn.2.2 i hm i (by simp) rfl
  have h2 : i ∉ l2 := fun hm => by
    rw [List.nodup_append] at hn
    exact (List.nodup_cons.1 hn.2.1).1 hm
  have e1 : l1.countP r = l1.countP p := List.countP_congr fun j hj => by rw [h j fun e => h1 (e ▸ hj)]
  have e2 : l2.countP r = l2.countP p := List.countP_congr fun j hj => by rw [h j fun e => h2 (e ▸ hj)]
  rw [List.countP_append, List.countP_append, List.countP_cons, List.countP_cons, e1, e2, hp, hr]
  simp; omega
theorem vc_set {i : Nat} {v : Int} (hl : d.length = n) (hi : i < n) (hu : d.getD i default < 0) (hv : 0 ≤ v) : vc n (d.set i v) = vc n d + 1 := by
  unfold vc
  refine countP_flip (i := i) List.nodup_range (List.mem_range.2 hi) (by simpa using hu) ?_ fun j hj => ?_
  · simp only [getD_setI (show i < d.length by omega), if_true]; simpa using hv
  · simp only [getD_setI (show i < d.length by omega), if_neg (Ne.symm hj)]
theorem BJ.step (h : BJ adj n to c m d q) (hm : m < n) : BJ adj n to c (m + 1) (bstep adj c (d, q) m).1 (bstep adj c (d, q) m).2 := by
  unfold bstep
  cases hc : (adj c m && decide (d.getD m default < 0))
  · rw [cond_false]
    refine { h with mid := fun j hj ha => ?_ }
    by_cases e : j = m
    · subst e
      rw [ha, Bool.true_and] at hc
      simpa using hc
    · exact h.mid j (by omega) ha
  · rw [cond_true]
    simp only [Bool.and_eq_true, decide_eq_true_eq] at hc
    obtain ⟨ha, hu⟩ := hc
    have hml : m < d.length := by rw [h.len]; exact hm
    have hv : (0 : Int) ≤ d.getD c default + 1 := by have := h.cv; omega
    have g : ∀ j, (d.set m (d.getD c default + 1)).getD j default = if m = j then d.getD c default + 1 else d.getD j default := fun j => getD_setI hml
    have hold : ∀ j, 0 ≤ d.getD j default → (d.set m (d.getD c default + 1)).getD j default = d.getD j default := fun j hj => by
      rw [g, if_neg]; intro e; subst e; omega
    have hmt : m ≠ to := fun e => by subst e; have := h.to0; omega
    have hmc : m ≠ c := fun e => by subst e; have := h.cv; omega
    have hmq : m ∉ q := fun e => by have := (h.qmem m e).2; omega
    have hcc := hold c h.cv
    dsimp only
    refine ⟨by simpa using h.len, ?_, h.tn, ?_, ?_, ?_, ?_, h.cn, ?_, ?_, ?_, ?_, ?_, ?_, ?_, ?_⟩
    · rw [hold to (by have := h.to0; omega)]; exact h.to0
    · intro i hi; rw [g]; split
      · omega
      · exact h.ge i hi
    · intro i hi
      rw [vc_set h.len hm hu hv, g]
      have := h.bound i hi
      have := h.bound c h.cn
      split <;> omega
    · intro x hx
      rcases List.mem_append.1 hx with hx | hx
      · have := h.qmem x hx; rw [hold x this.2]; exact this
      · simp at hx; subst hx; rw [g, if_pos rfl]; exact ⟨hm, hv⟩
    · intro i hi h0 hne
      by_cases e : m = i
      · subst e; exact ⟨c, h.cn, ha, by rw [hcc]; exact h.cv, by rw [hcc, g, if_pos rfl]⟩
      · rw [g, if_neg e] at h0 ⊢
        obtain ⟨j, hj, h1, h2, h3⟩ := h.pred i hi h0 hne
        exact ⟨j, hj, h1, by rw [hold j h2]; exact h2, by rw [hold j h2]; exact h3⟩
    · rw [hcc]; exact h.cv
    · intro hx
      rcases List.mem_append.1 hx with hx | hx
      · exact h.cq hx
      · simp at hx; exact hmc hx.symm
    · rw [List.nodup_append]
      exact ⟨h.nd, by simp, fun a hax b hb => by simp at hb; rw [hb]; exact fun e => hmq (e ▸ hax)⟩
    · intro i hi h0 hq hic j hj haj
      have hiq : i ∉ q := fun hx => hq (List.mem_append_left _ hx)
      have hmi : m ≠ i := fun e => hq (List.mem_append_right _ (by simp [e]))
      rw [g, if_neg hmi] at h0
      have gi : (d.set m (d.getD c default + 1)).getD i default = d.getD i default := by rw [g, if_neg hmi]
      rw [gi]
      obtain ⟨h1, h2⟩ := h.near i hi h0 hiq hic j hj haj
      rw [hold j h1]; exact ⟨h1, h2⟩
    · intro j hj haj
      by_cases e : m = j
      · rw [g, if_pos e]; exact hv
      · have := h.mid j (by omega) haj
        rw [hold j this]; exact this
    · intro x hx
      rw [hcc]
      rcases List.mem_append.1 hx with hx | hx
      · rw [hold x (h.qmem x hx).2]; exact h.low x hx
      · simp at hx; subst hx; rw [g, if_pos rfl]; omega
    · rw [List.pairwise_append]
      refine ⟨?_, by simp, fun a hax b hb => ?_⟩
      · refine h.srt.imp_of_mem fun {a b} hax hbx hab => ?_
        rw [hold a (h.qmem a hax).2, hold b (h.qmem b hbx).2]; exact hab
      · simp at hb; rw [hb]
        rw [hold a (h.qmem a hax).2, g, if_pos rfl]
        exact h.top a (h.qmem a hax).1
    · intro x hx
      rw [hcc, g]; split
      · omega
      · exact h.top x hx
theorem BJ.start (h : BI adj n to d (c :: q)) : BJ adj n to c 0 d q := by
  have hc := h.qmem c (by simp)
  have hnd := List.nodup_cons.1 h.nd
  have hs := List.pairwise_cons.1 h.srt
  exact ⟨h.len, h.to0, h.tn, h.ge, h.bound, fun x hx => h.qmem x (by simp [hx]), h.pred, hc.1, hc.2, hnd.1, hnd.2, fun i hi h0 hq hic j hj ha => h.near i hi h0 (by simp [hq, hic]) j hj ha, fun j hj => by omega, hs.1, hs.2, h.top c q rfl⟩
theorem BJ.fin (h : BJ adj n to c n d q) : BI adj n to d q := by
  refine ⟨h.len, h.to0, h.tn, h.ge, h.bound, h.qmem, h.pred, h.nd, fun i hi h0 hq j hj ha => ?_, h.srt, fun x t e y hy => ?_⟩
  · by_cases e : i = c
    · subst e; exact ⟨h.mid j hj ha, h.top j hj⟩
    · exact h.near i hi h0 hq e j hj ha
  · subst e
    have := h.top y hy; have := h.low x (by simp); omega
theorem BJ.fold (h : BJ adj n to c m d q) : ∀ k, m + k = n → BI adj n to ((List.range' m k).foldl (bstep adj c) (d, q)).1 ((List.range' m k).foldl (bstep adj c) (d, q)).2 := by
  intro k
  induction k generalizing m d q with
  | zero => intro e; have : m = n := by omega
            subst this; exact h.fin
  | succ k ih =>
    intro e
    rw [List.range'_succ, List.foldl_cons]
    exact ih (h.step (by omega)) (by omega)
theorem BI.round (h : BI adj n to d (c :: q)) : BI adj n to ((List.range n).foldl (bstep adj c) (d, q)).1 ((List.range n).foldl (bstep adj c) (d, q)).2 := by
  rw [List.range_eq_range']; exact (BJ.start h).fold n (by omega)
def start (n to : Nat) : List Int := (List.replicate n (-1)).set to 0
/-- distances -/
structure Dist (adj : Nat → Nat → Bool) (n to : Nat) (d : List Int) : Prop where
  len : d.length = n
  to0 : d.getD to default = 0
  tn : to < n
  ge : ∀ i < n, -1 ≤ d.getD i default
  bound : ∀ i < n, d.getD i default < n
  pred : ∀ i < n, 0 ≤ d.getD i default → i ≠ to → ∃ j < n, adj j i = true ∧ 0 ≤ d.getD j default ∧ d.getD i default = d.getD j default + 1
  near : ∀ i < n, 0 ≤ d.getD i default → ∀ j < n, adj i j = true → 0 ≤ d.getD j default ∧ d.getD j default ≤ d.getD i default + 1
/-- a way from i to j -/
inductive Conn (adj : Nat → Nat → Bool) (n : Nat) : Nat → Nat → Prop
  | refl {i : Nat} : i < n → Conn adj n i i
  | step {i j k : Nat} : Conn adj n i j → k < n → adj j k = true → Conn adj n i k
theorem Conn.lt {i j : Nat} (h : Conn adj n i j) : i < n ∧ j < n := by
  induction h with
  | refl h => exact ⟨h, h⟩
  | step _ hk _ ih => exact ⟨ih.1, hk⟩
theorem Conn.trans {i j k : Nat} (h : Conn adj n i j) (h2 : Conn adj n j k) : Conn adj n i k := by
  induction h2 with
  | refl _ => exact h
  | step _ hk ha ih => exact ih.step hk ha
theorem Conn.symm (hs : ∀ i < n, ∀ j < n, adj i j = adj j i) {i j : Nat} (h : Conn adj n i j) : Conn adj n j i := by
  induction h with
  | refl h => exact .refl h
  | step h1 hk ha ih =>
    have hj := h1.lt.2
    exact Conn.trans (.step (.refl hk) hj (by rw [← hs _ hj _ hk]; exact ha)) ih
end Go.Fx



/- Chapter 10, no program in sight: divisions, splits and merges. -/
set_option linter.unusedSimpArgs false
set_option linter.unusedVariables false
namespace Go.Fx
open Go Go.RowKit
/-- a division of nv volumes into sets -/
structure Part (nv : Nat) (K : List Nat) : Prop where
  nd : K.Nodup
  ne : ∀ m ∈ K, ∃ v < nv, m.testBit v = true
  hi : ∀ m ∈ K, ∀ v, m.testBit v = true → v < nv
  cov : ∀ v < nv, ∃ m ∈ K, m.testBit v = true
  dis : ∀ m ∈ K, ∀ m' ∈ K, ∀ v, m.testBit v = true → m'.testBit v = true → m = m'
def miss (K L : List Nat) : Nat := K.countP fun m => decide (m ∉ L)
def tog (K : List Nat) (v w : Nat) : Prop := ∃ m ∈ K, m.testBit v = true ∧ m.testBit w = true
variable {nv : Nat} {K L : List Nat}
end Go.Fx



/- Chapter 10: sectors and divisions, as the functions compute them. -/
set_option linter.unusedSimpArgs false
set_option linter.unusedVariables false
namespace Go.Fx
open Go Go.RowKit
theorem ipos {l n : Nat} (h : n < l) : ((n : Int) < (l : Int)) := by omega
/-! few -/
def fewB (a : XAirspace) : Bool := (a.sectors.all fun s => !decide (10 < (s.volumes.length : Int))) && ((a.configs.all fun c => !decide (10 < (c.sectors.length : Int))) && (decide ((a.volumes.length : Int) ≤ 6) && (decide ((a.sectors.length : Int) ≤ 12) && decide ((a.configs.length : Int) ≤ 7))))
theorem m12_eq (a : XAirspace) (ha : smXAirspace a) : m12_overflightref10_Few a = some (fewB a) := by
  have hs : a.sectors.length < 9223372036854775807 := by have := ha.2.1.1; omega
  have hc : a.configs.length < 9223372036854775807 := by have := ha.2.2.1.1; omega
  have h2 : ∀ fuel, a.configs.length < fuel → loop1 (m12_overflightref10_Few_B1 a) fuel 0 = some ((a.configs.all fun c => !decide (10 < (c.sectors.length : Int))) && (decide ((a.volumes.length : Int) ≤ 6) && (decide ((a.sectors.length : Int) ≤ 12) && decide ((a.configs.length : Int) ≤ 7)))) := by
    intro fuel hf
    refine up_list0 (fun t => some ((t.all fun c => !decide (10 < (c.sectors.length : Int))) && (decide ((a.volumes.length : Int) ≤ 6) && (decide ((a.sectors.length : Int) ≤ 12) && decide ((a.configs.length : Int) ≤ 7))))) a.configs hc ?_ ?_ hf
    · intro sf; unfold m12_overflightref10_Few_B1
      simp only [Int.lt_irrefl, decide_false, cond_false, List.all_nil, Bool.true_and]
      cases decide ((a.volumes.length : Int) ≤ 6) <;> cases decide ((a.sectors.length : Int) ≤ 12) <;> rfl
    · intro sf i x t h1 h2 h3 ih
      obtain ⟨_, rfl⟩ := List.getElem?_eq_some_iff.1 h2
      unfold m12_overflightref10_Few_B1
      have g1 : a.configs.getD (i : Int).toNat default = a.configs[i] := by simp [h1]
      simp only [decide_eq_true (ipos h1), cond_true, g1, h3, List.all_cons]
      rw [ck_eq (by omega), ih]
      cases decide (10 < (a.configs[i].sectors.length : Int)) <;> simp
  unfold m12_overflightref10_Few fewB
  refine up_list0 (fun t => some ((t.all fun s => !decide (10 < (s.volumes.length : Int))) && ((a.configs.all fun c => !decide (10 < (c.sectors.length : Int))) && (decide ((a.volumes.length : Int) ≤ 6) && (decide ((a.sectors.length : Int) ≤ 12) && decide ((a.configs.length : Int) ≤ 7)))))) a.sectors hs ?_ ?_ (show a.sectors.length < ((a.sectors.length : Int) - 0).toNat + 1 by omega)
  · intro sf; unfold m12_overflightref10_Few_B0
    simp only [Int.lt_irrefl, decide_false, cond_false, List.all_nil, Bool.true_and]
    exact h2 _ (by omega)
  · intro sf i x t h1 h2 h3 ih
    obtain ⟨_, rfl⟩ := List.getElem?_eq_some_iff.1 h2
    unfold m12_overflightref10_Few_B0
    have g1 : a.sectors.getD (i : Int).toNat default = a.sectors[i] := by simp [h1]
    simp only [decide_eq_true (ipos h1), cond_true, g1, h3, List.all_cons]
    rw [ck_eq (by omega), ih]
    cases decide (10 < (a.sectors[i].volumes.length : Int)) <;> simp
structure Few10 (a : XAirspace) : Prop where
  nv : a.volumes.length ≤ 6
  ns : a.sectors.length ≤ 12
  nc : a.configs.length ≤ 7
  sl : ∀ s ∈ a.sectors, s.volumes.length ≤ 10
  cl : ∀ c ∈ a.configs, c.sectors.length ≤ 10
theorem Few10.of {a : XAirspace} (h : fewB a = true) : Few10 a := by
  unfold fewB at h
  simp only [Bool.and_eq_true, List.all_eq_true, Bool.not_eq_true', decide_eq_false_iff_not, decide_eq_true_eq] at h
  obtain ⟨h1, h2, h3, h4, h5⟩ := h
  exact ⟨by omega, by omega, by omega, fun s hs => by have := h1 s hs; omega, fun c hc => by have := h2 c hc; omega⟩
/-! sectors -/
def secGo (nv : Nat) : Nat → List Int → Option Nat
  | x, [] => some x
  | x, v :: t => bif decide (v < 0) || (decide ((nv : Int) ≤ v) || x.testBit v.toNat) then none else secGo nv (x ||| 2 ^ v.toNat) t
def secV (nv : Nat) (l : List Int) : Option Nat := (secGo nv 0 l).bind fun x => if x = 0 then none else some x
def setsGo (nv : Nat) : List XSector → Option (List Nat)
  | [] => some []
  | s :: t => (secV nv s.volumes).bind fun x => (setsGo nv t).map (x :: ·)
def res {α : Type} : Option (List α) → List α × Bool
  | none => ([], false)
  | some L => (L, true)
theorem and_pow_zero {x k : Nat} : x &&& 2 ^ k = 0 ↔ x.testBit k = false := by
  constructor
  · intro h
    have : (x &&& 2 ^ k).testBit k = false := by rw [h]; exact Nat.zero_testBit k
    rw [Nat.testBit_and, Nat.testBit_two_pow_self, Bool.and_true] at this; exact this
  · intro h
    refine Nat.eq_of_testBit_eq fun i => ?_
    rw [Nat.testBit_and, Nat.zero_testBit]
    by_cases e : k = i
    · subst e; rw [h]; rfl
    · rw [Nat.testBit_two_pow_of_ne e, Bool.and_false]
theorem testBit_and_pow {x k : Nat} : decide (((x &&& 2 ^ k : Nat) : Int) ≠ 0) = x.testBit k := by
  cases h : x.testBit k
  · rw [and_pow_zero.2 h]; rfl
  · have : x &&& 2 ^ k ≠ 0 := fun e => by rw [and_pow_zero.1 e] at h; cases h
    rw [decide_eq_true_eq]; omega
theorem wrapBit {k : Nat} (h : k < 64) : IntKind.wrap .u64 (1 * 2 ^ min k (IntKind.bits .u64)) = ((2 ^ k : Nat) : Int) := by
  have hm : min k (IntKind.bits .u64) = k := Nat.min_eq_left (show k ≤ 64 by omega)
  rw [hm, Int.one_mul]
  have h1 : 2 ^ k < 2 ^ 64 := Nat.pow_lt_pow_right (by decide) h
  have e : ((2 : Int) ^ k) = ((2 ^ k : Nat) : Int) := by simp
  rw [e]
  generalize 2 ^ k = m at h1
  exact IntWalk.u64_in _ ⟨by omega, by omega⟩
theorem or_lt {x k n : Nat} (hx : x < 2 ^ n) (hk : k < n) : x ||| 2 ^ k < 2 ^ n := Nat.or_lt_two_pow hx (Nat.pow_lt_pow_right (by decide) hk)
theorem pow64 {n : Nat} (h : n ≤ 6) : 2 ^ n ≤ 64 := by
  have : 2 ^ n ≤ 2 ^ 6 := Nat.pow_le_pow_right (by decide) h
  omega
theorem m41_inner (a : XAirspace) (hf : Few10 a) (j : Nat) (hj : j < a.sectors.length) (hw : IntKind.i64.wrap ((j : Int) + 1) = (j : Int) + 1) (sf : List Int → Int → Option (List Int × Bool)) (l : List Int) (hl : l.length ≤ 12) :
    loop3 (m41_configs_sets_B1 a j sf) (((((a.sectors.getD (j : Int).toNat default).volumes).length : Int) - 0).toNat + 1) l 0 0 = match secV a.volumes.length (a.sectors.getD j default).volumes with
      | none => some (([] : List Int), false)
      | some x => sf (l ++ [(x : Int)]) ((j : Int) + 1) := by
  have hnv := hf.nv
  have hmem : a.sectors.getD j default ∈ a.sectors := by rw [show a.sectors.getD j default = a.sectors[j] by simp [hj]]; exact List.getElem_mem _
  have hsl := hf.sl _ hmem
  have e0 : a.sectors.getD (j : Int).toNat default = a.sectors.getD j default := rfl
  rw [e0]
  generalize hS : (a.sectors.getD j default).volumes = S at hsl ⊢
  refine (up_list (σ := List Int × Int) (L := fun n i s => loop3 (m41_configs_sets_B1 a j sf) n s.1 s.2 i) (fun _ s => ∃ x : Nat, s.2 = (x : Int) ∧ x < 2 ^ a.volumes.length ∧ s.1.length ≤ 12)
    (fun i t s => match (secGo a.volumes.length s.2.toNat t).bind fun x => if x = 0 then none else some x with
      | none => some (([] : List Int), false)
      | some x => sf (s.1 ++ [(x : Int)]) ((j : Int) + 1)) S (by omega) ?_ ?_ _ (l, 0) (by omega) ⟨0, rfl, Nat.two_pow_pos _, hl⟩).trans ?_
  · rintro n ⟨l, y⟩ ⟨x, rfl, hx, hl⟩
    simp only at hl ⊢
    rw [loop3_succ]
    unfold m41_configs_sets_B1
    simp only [e0, hS, Int.lt_irrefl, decide_false, cond_false, secGo, Int.toNat_natCast, Option.bind_some, hw]
    by_cases h0 : x = 0
    · subst h0; rfl
    · rw [decide_eq_false (show ¬ (x : Int) = 0 by omega), cond_false, if_neg h0, ck_eq (by simp; omega)]
  · rintro n i ⟨l, y⟩ v t h1 h2 h3 ⟨x, rfl, hx, hl⟩ ih
    obtain ⟨_, rfl⟩ := List.getElem?_eq_some_iff.1 h2
    simp only at hl ⊢
    rw [loop3_succ]
    generalize loop3 (m41_configs_sets_B1 a (j : Int) sf) n = sf2 at ih ⊢
    unfold m41_configs_sets_B1
    have g1 : S.getD i default = S[i] := by simp [h1]
    have hx64 := pow64 hnv
    simp only [e0, hS, decide_eq_true (ipos h1), cond_true, g1, h3, jn_eq, secGo, Int.toNat_natCast]
    rw [ck_eq (by omega)]
    by_cases k1 : S[i] < 0
    · rw [decide_eq_true k1]; rfl
    by_cases k2 : (a.volumes.length : Int) ≤ S[i]
    · rw [decide_eq_false k1, decide_eq_true k2]; rfl
    have hk : S[i].toNat < 64 := by omega
    rw [decide_eq_false k1, cond_false, decide_eq_false k2, cond_false, ck_eq (by omega), wrapBit hk]
    have hp : 2 ^ S[i].toNat < 2 ^ 64 := Nat.pow_lt_pow_right (by decide) hk
    rw [bits_and_u64_nat x _ (by omega) (by omega), bits_or_u64_nat x _ (by omega) (by omega), testBit_and_pow]
    simp only [Bool.false_or]
    cases x.testBit S[i].toNat
    · rw [cond_false, cond_false, ck_eq (by omega), ih (l, _) ⟨_, rfl, or_lt hx (by omega), hl⟩]
      rfl
    · rfl
  · unfold secV; rfl
theorem m41_eq (a : XAirspace) (hf : Few10 a) : m41_configs_sets a = some (res ((setsGo a.volumes.length a.sectors).map fun L => L.map fun (x : Nat) => (x : Int))) := by
  have hns := hf.ns
  unfold m41_configs_sets
  refine (up_listB (B := m41_configs_sets_B0 a) (σ := List Int) (fun i s => s.length = i) (fun i t s => some (res ((setsGo a.volumes.length t).map fun L => s ++ L.map fun (x : Nat) => (x : Int)))) a.sectors (by omega) ?_ ?_ (by omega) rfl).trans ?_
  · intro sf s h; unfold m41_configs_sets_B0
    simp [setsGo, res]
  · intro sf i s x t h1 h2 h3 hs ih
    have hx := getD_of (d := default) h2
    unfold m41_configs_sets_B0
    simp only [decide_eq_true (ipos h1), cond_true]
    rw [ck_eq (by omega), m41_inner a hf i h1 h3 sf s (by omega), hx]
    simp only [setsGo]
    cases secV a.volumes.length x.volumes with
    | none => rfl
    | some y =>
      simp only [Option.bind_some]
      rw [ih _ (by simp; omega)]
      cases setsGo a.volumes.length t <;> simp [res]
  · cases setsGo a.volumes.length a.sectors <;> simp [res]
/-! divisions -/
def cfgGo (secs : List Nat) : Nat → List (Int × Bool) → List Int → Option (Nat × List (Int × Bool))
  | x, d, [] => some (x, d)
  | x, d, s :: t => bif decide (s < 0) || (decide ((secs.length : Int) ≤ s) || decide (x &&& secs.getD s.toNat 0 ≠ 0)) then none else cfgGo secs (x ||| secs.getD s.toNat 0) (mput d (secs.getD s.toNat 0 : Nat) true) t
def cfgV (nv : Nat) (secs : List Nat) (c : List Int) : Option (List (Int × Bool)) := (cfgGo secs 0 [] c).bind fun p => if p.1 = 2 ^ nv - 1 then some p.2 else none
def divGo (nv : Nat) (secs : List Nat) : List XConfig → Option (List (List (Int × Bool)))
  | [] => some []
  | c :: t => (cfgV nv secs c.sectors).bind fun d => (divGo nv secs t).map (d :: ·)
def shapeB (a : XAirspace) : Bool := decide (1 ≤ a.volumes.length) && decide (1 ≤ a.configs.length)
def divV (a : XAirspace) : Option (List (List (Int × Bool))) := bif shapeB a then (setsGo a.volumes.length a.sectors).bind fun secs => divGo a.volumes.length secs a.configs else none
theorem all_eq {n : Nat} (h1 : 1 ≤ n) (h : n ≤ 6) : (18446744073709551615 / 2 ^ min (IntKind.wrap .i64 (64 - (n : Int))).toNat (IntKind.bits .u64) : Int) = ((2 ^ n - 1 : Nat) : Int) := by
  have : n = 1 ∨ n = 2 ∨ n = 3 ∨ n = 4 ∨ n = 5 ∨ n = 6 := by omega
  rcases this with rfl | rfl | rfl | rfl | rfl | rfl <;> decide +kernel
theorem getD_mapI (secs : List Nat) (i : Nat) : (secs.map fun (x : Nat) => (x : Int)).getD i default = ((secs.getD i 0 : Nat) : Int) := by
  simp only [List.getD_eq_getElem?_getD, List.getElem?_map]
  cases secs[i]? <;> rfl
theorem getD_lt {secs : List Nat} {b i : Nat} (h : ∀ x ∈ secs, x < b) (hi : i < secs.length) : secs.getD i 0 < b := by
  rw [show secs.getD i 0 = secs[i] by simp [hi]]; exact h _ (List.getElem_mem _)
theorem m31_inner (a : XAirspace) (hf : Few10 a) (hv1 : 1 ≤ a.volumes.length) (secs : List Nat) (hb : ∀ x ∈ secs, x < 64) (j : Nat) (hj : j < a.configs.length) (hw : IntKind.i64.wrap ((j : Int) + 1) = (j : Int) + 1) (sf : List (List (Int × Bool)) → Int → Option (List (List (Int × Bool)) × Bool)) (l : List (List (Int × Bool))) (hl : l.length ≤ 12) :
    loop4 (m31_configs_divisions_B1 a (secs.map (fun (x : Nat) => (x : Int)), true) j sf) (((((a.configs.getD (j : Int).toNat default).sectors).length : Int) - 0).toNat + 1) l 0 0 ([] : List (Int × Bool)) = match cfgV a.volumes.length secs (a.configs.getD j default).sectors with
      | none => some (([] : List (List (Int × Bool))), false)
      | some d => sf (l ++ [d]) ((j : Int) + 1) := by
  have hnv := hf.nv
  have hmem : a.configs.getD j default ∈ a.configs := by rw [show a.configs.getD j default = a.configs[j] by simp [hj]]; exact List.getElem_mem _
  have hcl := hf.cl _ hmem
  have e0 : a.configs.getD (j : Int).toNat default = a.configs.getD j default := rfl
  rw [e0]
  generalize hS : (a.configs.getD j default).sectors = S at hcl ⊢
  refine (up_list (σ := List (List (Int × Bool)) × Int × List (Int × Bool)) (L := fun n i s => loop4 (m31_configs_divisions_B1 a (secs.map (fun (x : Nat) => (x : Int)), true) j sf) n s.1 s.2.1 i s.2.2) (fun _ s => ∃ x : Nat, s.2.1 = (x : Int) ∧ x < 64 ∧ s.1.length ≤ 12)
    (fun i t s => match (cfgGo secs s.2.1.toNat s.2.2 t).bind fun p => if p.1 = 2 ^ a.volumes.length - 1 then some p.2 else none with
      | none => some (([] : List (List (Int × Bool))), false)
      | some d => sf (s.1 ++ [d]) ((j : Int) + 1)) S (by omega) ?_ ?_ _ (l, 0, []) (by omega) ⟨0, rfl, by decide, hl⟩).trans ?_
  · rintro n ⟨l, y, d⟩ ⟨x, rfl, hx, hl⟩
    simp only at hl ⊢
    rw [loop4_succ]
    unfold m31_configs_divisions_B1
    simp only [e0, hS, Int.lt_irrefl, decide_false, cond_false, cfgGo, Int.toNat_natCast, Option.bind_some, hw, all_eq hv1 hnv]
    by_cases h0 : x = 2 ^ a.volumes.length - 1
    · rw [decide_eq_false (show ¬ ((x : Int) ≠ ((2 ^ a.volumes.length - 1 : Nat) : Int)) by omega), cond_false, if_pos h0, ck_eq (by simp; omega)]
    · rw [decide_eq_true (show ((x : Int) ≠ ((2 ^ a.volumes.length - 1 : Nat) : Int)) by omega), cond_true, if_neg h0]
  · rintro n i ⟨l, y, d⟩ v t h1 h2 h3 ⟨x, rfl, hx, hl⟩ ih
    obtain ⟨_, rfl⟩ := List.getElem?_eq_some_iff.1 h2
    simp only at hl ⊢
    rw [loop4_succ]
    generalize loop4 (m31_configs_divisions_B1 a (secs.map (fun (x : Nat) => (x : Int)), true) (j : Int) sf) n = sf2 at ih ⊢
    unfold m31_configs_divisions_B1
    have g1 : S.getD i default = S[i] := by simp [h1]
    simp only [e0, hS, decide_eq_true (ipos h1), cond_true, g1, h3, jn_eq, cfgGo, Int.toNat_natCast, List.length_map, getD_mapI]
    rw [ck_eq (by omega)]
    by_cases k1 : S[i] < 0
    · rw [decide_eq_true k1]; rfl
    by_cases k2 : (secs.length : Int) ≤ S[i]
    · rw [decide_eq_false k1, decide_eq_true k2]; rfl
    rw [decide_eq_false k1, cond_false, decide_eq_false k2, cond_false, ck_eq (by omega)]
    have hm : secs.getD S[i].toNat 0 < 64 := getD_lt hb (by omega)
    rw [bits_and_u64_nat x _ (by omega) (by omega), bits_or_u64_nat x _ (by omega) (by omega)]
    simp only [Bool.false_or]
    have hor : x ||| secs.getD S[i].toNat 0 < 64 := Nat.or_lt_two_pow (n := 6) hx hm
    have ed : decide (((x &&& secs.getD S[i].toNat 0 : Nat) : Int) ≠ 0) = decide (x &&& secs.getD S[i].toNat 0 ≠ 0) := by
      by_cases h0 : x &&& secs.getD S[i].toNat 0 = 0
      · simp [h0]
      · rw [decide_eq_true h0]; simp only [ne_eq, decide_eq_true_eq]; omega
    rw [ed]
    cases decide (x &&& secs.getD S[i].toNat 0 ≠ 0)
    · rw [cond_false, cond_false, ck_eq (by omega), ck_eq (by omega), ih (l, _, _) ⟨_, rfl, hor, hl⟩]
      rfl
    · rfl
  · unfold cfgV; rfl
theorem secGo_lt {nv : Nat} : ∀ {t : List Int} {x y : Nat}, x < 2 ^ nv → secGo nv x t = some y → y < 2 ^ nv := by
  intro t
  induction t with
  | nil => intro x y hx h; cases h; exact hx
  | cons v t ih =>
    intro x y hx h
    unfold secGo at h
    cases hc : (decide (v < 0) || (decide ((nv : Int) ≤ v) || x.testBit v.toNat))
    · rw [hc, cond_false] at h
      simp only [Bool.or_eq_false_iff, decide_eq_false_iff_not] at hc
      exact ih (or_lt hx (by omega)) h
    · rw [hc] at h; cases h
theorem setsGo_lt {nv : Nat} : ∀ {l : List XSector} {L : List Nat}, setsGo nv l = some L → (∀ x ∈ L, x < 2 ^ nv) ∧ L.length = l.length := by
  intro l
  induction l with
  | nil => intro L h; cases h; simp
  | cons s t ih =>
    intro L h
    unfold setsGo at h
    cases h1 : secV nv s.volumes with
    | none => rw [h1] at h; cases h
    | some x =>
      rw [h1, Option.bind_some] at h
      cases h2 : setsGo nv t with
      | none => rw [h2] at h; cases h
      | some M =>
        rw [h2, Option.map_some] at h
        cases h
        obtain ⟨i1, i2⟩ := ih h2
        unfold secV at h1
        cases h3 : secGo nv 0 s.volumes with
        | none => rw [h3] at h1; cases h1
        | some y =>
          rw [h3, Option.bind_some] at h1
          have : y = x := by split at h1 <;> simp_all
          subst this
          refine ⟨fun z hz => ?_, by simp [i2]⟩
          rcases List.mem_cons.1 hz with rfl | hz
          · exact secGo_lt (Nat.two_pow_pos _) h3
          · exact i1 z hz
theorem m31_eq (a : XAirspace) (hf : Few10 a) : m31_configs_divisions a = some (res (divV a)) := by
  have hnv := hf.nv; have hns := hf.ns; have hnc := hf.nc
  unfold m31_configs_divisions divV
  simp only [jn_eq, m41_eq a hf, Option.bind_some]
  by_cases c1 : (a.volumes.length : Int) < 1
  · have : shapeB a = false := by unfold shapeB; rw [decide_eq_false (by omega)]; rfl
    rw [decide_eq_true c1, this]; rfl
  by_cases c2 : (a.configs.length : Int) < 1
  · have : shapeB a = false := by unfold shapeB; rw [decide_eq_false (show ¬ 1 ≤ a.configs.length by omega), Bool.and_false]
    rw [decide_eq_false c1, decide_eq_false (show ¬ 64 < (a.volumes.length : Int) by omega), decide_eq_false (show ¬ 64 < (a.sectors.length : Int) by omega), decide_eq_true c2, this]; rfl
  have : shapeB a = true := by unfold shapeB; rw [decide_eq_true (show 1 ≤ a.configs.length by omega), decide_eq_true (by omega)]; rfl
  rw [decide_eq_false c1, decide_eq_false (show ¬ 64 < (a.volumes.length : Int) by omega), decide_eq_false (show ¬ 64 < (a.sectors.length : Int) by omega), decide_eq_false c2, decide_eq_false (show ¬ 32 < (a.configs.length : Int) by omega), this]
  simp only [cond_false, cond_true]
  cases hs : setsGo a.volumes.length a.sectors with
  | none => rfl
  | some secs =>
    obtain ⟨hlt, hlen⟩ := setsGo_lt hs
    have h64 := pow64 hnv
    simp only [Option.map_some, res, Bool.not_true, cond_false, Option.bind_some]
    rw [ck_eq (by rw [wrap_i64 (by omega) (by omega)]; omega)]
    refine (up_listB (B := m31_configs_divisions_B0 a (secs.map (fun (x : Nat) => (x : Int)), true)) (σ := List (List (Int × Bool))) (fun i s => s.length = i) (fun i t s => some (res ((divGo a.volumes.length secs t).map fun L => s ++ L))) a.configs (by omega) ?_ ?_ (by omega) rfl).trans ?_
    · intro sf s h; unfold m31_configs_divisions_B0
      simp [divGo, res]
    · intro sf i s x t h1 h2 h3 hs ih
      have hx := getD_of (d := default) h2
      unfold m31_configs_divisions_B0
      simp only [decide_eq_true (ipos h1), cond_true]
      rw [ck_eq (by omega), m31_inner a hf (by omega) secs (fun x hx => by have := hlt x hx; omega) i h1 h3 sf s (by omega), hx]
      simp only [divGo]
      cases cfgV a.volumes.length secs x.sectors with
      | none => rfl
      | some y =>
        simp only [Option.bind_some]
        rw [ih _ (by simp; omega)]
        cases divGo a.volumes.length secs t <;> simp [res]
    · cases divGo a.volumes.length secs a.configs <;> simp [res]
theorem m15_eq (a : XAirspace) (hf : Few10 a) : m15_configs_Check a = some (bif (divV a).isSome then 0 else 100) := by
  unfold m15_configs_Check
  rw [m31_eq a hf, Option.bind_some]
  cases divV a <;> rfl
end Go.Fx



/- Chapter 10: what valid airspaces are, with the program's words and with the document's. -/
set_option linter.unusedSimpArgs false
set_option linter.unusedVariables false
namespace Go.Fx
open Go Go.RowKit
/-! the document's Check -/
theorem m30_eq (l : List Int) (n : Int) (hl : l.length < 9223372036854775807) : m30_overflightref10_has l n = some (decide (n ∈ l)) := by
  unfold m30_overflightref10_has
  refine up_list0 (fun t => some (decide (n ∈ t))) l hl ?_ ?_ (show l.length < ((l.length : Int) - 0).toNat + 1 by omega)
  · intro sf; unfold m30_overflightref10_has_B0; simp
  · intro sf i x t h1 h2 h3 ih
    obtain ⟨_, rfl⟩ := List.getElem?_eq_some_iff.1 h2
    unfold m30_overflightref10_has_B0
    have g1 : l.getD (i : Int).toNat default = l[i] := by simp [h1]
    simp only [decide_eq_true (ipos h1), cond_true, g1, h3, ih]
    rw [ck_eq (by omega)]
    by_cases e : l[i] = n
    · simp [e]
    · have : (n ∈ l[i] :: t) ↔ n ∈ t := ⟨fun h => (List.mem_cons.1 h).resolve_left (Ne.symm e), List.mem_cons_of_mem _⟩
      rw [decide_eq_false e, cond_false]; simp only [this]
def idxOk (below : Int) (l : List Int) : Prop := (∀ v ∈ l, 0 ≤ v ∧ v < below) ∧ l.Nodup
instance (below : Int) (l : List Int) : Decidable (idxOk below l) := by unfold idxOk; infer_instance
theorem m32_eq (l : List Int) (below : Int) (hl : l.length < 9223372036854775807) : m32_overflightref10_indices l below = some (decide (idxOk below l)) := by
  unfold m32_overflightref10_indices
  refine (up_listI (fun i t => some (decide (idxOk below t ∧ ∀ v ∈ t, v ∉ l.take i))) l hl ?_ ?_ (show l.length < ((l.length : Int) - 0).toNat + 1 by omega)).trans (by simp)
  · intro sf; unfold m32_overflightref10_indices_B0; simp [idxOk]
  · intro sf i x t h1 h2 h3 ih
    obtain ⟨_, rfl⟩ := List.getElem?_eq_some_iff.1 h2
    unfold m32_overflightref10_indices_B0
    have g1 : l.getD (i : Int).toNat default = l[i] := by simp [h1]
    simp only [decide_eq_true (ipos h1), cond_true, g1, h3, ih, jn_eq]
    rw [ck_eq (by omega), ck_eq (by omega), ck_eq (by omega), ck_eq (by omega)]
    have e1 : (l.drop 0).take ((i : Int).toNat - 0) = l.take i := by simp
    rw [e1, m30_eq _ _ (by simp; omega), Option.bind_some]
    have et : l.take (i + 1) = l.take i ++ [l[i]] := List.take_succ_eq_append_getElem h1
    by_cases k1 : l[i] < 0
    · have : ¬ (idxOk below (l[i] :: t) ∧ ∀ v ∈ l[i] :: t, v ∉ l.take i) := fun h => by have := h.1.1 l[i] (by simp); omega
      rw [decide_eq_true k1, decide_eq_false this]; rfl
    by_cases k2 : below ≤ l[i]
    · have : ¬ (idxOk below (l[i] :: t) ∧ ∀ v ∈ l[i] :: t, v ∉ l.take i) := fun h => by have := h.1.1 l[i] (by simp); omega
      rw [decide_eq_false k1, cond_false, decide_eq_true k2, decide_eq_false this]; rfl
    rw [decide_eq_false k1, decide_eq_false k2]
    by_cases k3 : l[i] ∈ l.take i
    · have : ¬ (idxOk below (l[i] :: t) ∧ ∀ v ∈ l[i] :: t, v ∉ l.take i) := fun h => h.2 l[i] (by simp) k3
      rw [decide_eq_true k3, decide_eq_false this]; rfl
    · rw [decide_eq_false k3]
      simp only [cond_false]
      congr 1
      rw [Bool.eq_iff_iff, decide_eq_true_iff, decide_eq_true_iff]
      simp only [idxOk, List.nodup_cons, List.mem_cons, et, List.mem_append, List.mem_cons, List.not_mem_nil, or_false, not_or]
      constructor
      · rintro ⟨⟨h1, h2⟩, h3⟩
        refine ⟨⟨?_, fun hm => (h3 _ hm).2 rfl, h2⟩, ?_⟩
        · rintro v (rfl | hv)
          · omega
          · exact h1 v hv
        · rintro v (rfl | hv)
          · exact k3
          · exact (h3 v hv).1
      · rintro ⟨⟨h1, h2, h3⟩, h4⟩
        exact ⟨⟨fun v hv => h1 v (.inr hv), h3⟩, fun v hv => ⟨h4 v (.inr hv), fun e => h2 (by rw [← e]; exact hv)⟩⟩
def hasV (a : XAirspace) (v : Nat) (s : Int) : Bool := decide ((v : Int) ∈ (a.sectors.getD s.toNat default).volumes)
def divOk (a : XAirspace) (c : List Int) : Prop := idxOk a.sectors.length c ∧ ∀ v < a.volumes.length, c.countP (hasV a v) = 1
instance (a : XAirspace) (c : List Int) : Decidable (divOk a c) := by unfold divOk; infer_instance
theorem sec_len {a : XAirspace} (hf : Few10 a) (i : Nat) : (a.sectors.getD i default).volumes.length ≤ 10 := by
  by_cases h : i < a.sectors.length
  · rw [show a.sectors.getD i default = a.sectors[i] by simp [h]]; exact hf.sl _ (List.getElem_mem _)
  · rw [show a.sectors.getD i default = default by simp [List.getD, List.getElem?_eq_none (show a.sectors.length ≤ i by omega)]]; decide
theorem m33_eq (a : XAirspace) (hf : Few10 a) (c : XConfig) (hc : c.sectors.length ≤ 10) : m33_overflightref10_divides a c = some (decide (divOk a c.sectors)) := by
  have hnv := hf.nv
  unfold m33_overflightref10_divides
  rw [m32_eq _ _ (by omega), Option.bind_some]
  by_cases hi : idxOk a.sectors.length c.sectors
  · rw [decide_eq_true hi]
    simp only [Bool.not_true, cond_false]
    have inner : ∀ (sf : Int → Option Bool) (v : Nat) (hw : IntKind.i64.wrap ((v : Int) + 1) = (v : Int) + 1), loop2 (m33_overflightref10_divides_B1 a c v sf) (((c.sectors.length : Int) - 0).toNat + 1) 0 0 = bif decide (c.sectors.countP (hasV a v) = 1) then sf ((v : Int) + 1) else some false := by
      intro sf v hw
      refine (up_listB (B := m33_overflightref10_divides_B1 a c v sf) (σ := Int) (fun i s => ∃ k : Nat, s = (k : Int) ∧ k ≤ i) (fun i t s => bif decide (s + (t.countP (hasV a v) : Nat) = 1) then sf ((v : Int) + 1) else some false) c.sectors (by omega) ?_ ?_ (by omega) ⟨0, rfl, Nat.le_refl _⟩).trans ?_
      · rintro sf2 s ⟨k, rfl, hk⟩
        unfold m33_overflightref10_divides_B1
        simp only [Int.lt_irrefl, decide_false, cond_false, List.countP_nil, hw]
        by_cases e : (k : Int) = 1
        · simp [e]
        · have : ¬ ((k : Int) + ((0 : Nat) : Int) = 1) := by omega
          simp [e, this]
      · rintro sf2 i s x t h1 h2 h3 ⟨k, rfl, hk⟩ ih
        obtain ⟨_, rfl⟩ := List.getElem?_eq_some_iff.1 h2
        unfold m33_overflightref10_divides_B1
        have g1 : c.sectors.getD (i : Int).toNat default = c.sectors[i] := by simp [h1]
        have hr := hi.1 c.sectors[i] (List.getElem_mem _)
        simp only [decide_eq_true (ipos h1), cond_true, g1, h3]
        rw [ck_eq (by omega), ck_eq (by omega), m30_eq _ _ (by have := sec_len hf c.sectors[i].toNat; omega), Option.bind_some, List.countP_cons]
        rw [show decide ((v : Int) ∈ (a.sectors.getD c.sectors[i].toNat default).volumes) = hasV a v c.sectors[i] from rfl]
        cases hasV a v c.sectors[i]
        · rw [cond_false, ih _ ⟨k, rfl, by omega⟩]; simp
        · rw [cond_true, wrapS (by omega), ih _ ⟨k + 1, by omega, by omega⟩]
          have e : ((k : Int) + 1 + ((t.countP (hasV a v) : Nat) : Int) = 1) = ((k : Int) + ((t.countP (hasV a v) + (if true = true then 1 else 0) : Nat) : Int) = 1) := by apply propext; simp; omega
          simp only [e]
      · have e : decide ((0 : Int) + ((c.sectors.countP (hasV a v) : Nat) : Int) = 1) = decide (c.sectors.countP (hasV a v) = 1) := by
          rw [Bool.eq_iff_iff, decide_eq_true_iff, decide_eq_true_iff]; omega
        show (bif decide ((0 : Int) + ((c.sectors.countP (hasV a v) : Nat) : Int) = 1) then _ else _) = _
        rw [e]
    refine (up_listI (fun i t => some (decide (∀ k < t.length, c.sectors.countP (hasV a (i + k)) = 1))) a.volumes (by omega) ?_ ?_ (show a.volumes.length < ((a.volumes.length : Int) - 0).toNat + 1 by omega)).trans ?_
    · intro sf; unfold m33_overflightref10_divides_B0
      simp only [Int.lt_irrefl, decide_false, cond_false]
      rw [decide_eq_true]
      intro k hk; simp at hk
    · intro sf i x t h1 h2 h3 ih
      unfold m33_overflightref10_divides_B0
      simp only [decide_eq_true (ipos h1), cond_true]
      rw [inner sf i h3, ih]
      by_cases e : c.sectors.countP (hasV a i) = 1
      · rw [decide_eq_true e, cond_true]
        congr 1
        rw [Bool.eq_iff_iff, decide_eq_true_iff, decide_eq_true_iff, List.length_cons]
        constructor
        · intro h k hk
          cases k with
          | zero => exact e
          | succ k => have := h k (by omega); rw [show i + (k + 1) = i + 1 + k by omega]; exact this
        · intro h k hk; rw [show i + 1 + k = i + (k + 1) by omega]; exact h (k + 1) (by omega)
      · rw [decide_eq_false e, cond_false, decide_eq_false]
        intro h; exact e (h 0 (by simp))
    · congr 1
      rw [Bool.eq_iff_iff, decide_eq_true_iff, decide_eq_true_iff]
      constructor
      · intro h; exact ⟨hi, fun v hv => by have := h v hv; rwa [Nat.zero_add] at this⟩
      · intro h v hv; rw [Nat.zero_add]; exact h.2 v hv
  · have : ¬ divOk a c.sectors := fun h => hi h.1
    rw [decide_eq_false hi, decide_eq_false this]; rfl
structure OKa (a : XAirspace) : Prop where
  nv1 : 1 ≤ a.volumes.length
  nc1 : 1 ≤ a.configs.length
  sec : ∀ s ∈ a.sectors, s.volumes ≠ [] ∧ idxOk a.volumes.length s.volumes
  cfg : ∀ c ∈ a.configs, divOk a c.sectors
noncomputable def okB (a : XAirspace) : Bool := @decide (OKa a) (Classical.propDecidable _)
theorem okB_true {a : XAirspace} : okB a = true ↔ OKa a := by unfold okB; exact @decide_eq_true_iff _ (Classical.propDecidable _)
theorem okB_false {a : XAirspace} (h : ¬ OKa a) : okB a = false := by
  cases e : okB a
  · rfl
  · exact absurd (okB_true.1 e) h
theorem m16_eq (a : XAirspace) (hf : Few10 a) : m16_overflightref10_Check a = some (bif okB a then (0 : Int) else 100) := by
  have hnv := hf.nv; have hns := hf.ns; have hnc := hf.nc
  unfold m16_overflightref10_Check
  simp only [jn_eq]
  by_cases c1 : (a.volumes.length : Int) < 1
  · rw [decide_eq_true c1, okB_false fun h => by have := h.nv1; omega]; rfl
  by_cases c2 : (a.configs.length : Int) < 1
  · rw [decide_eq_false c1, decide_eq_false (show ¬ 64 < (a.volumes.length : Int) by omega), decide_eq_false (show ¬ 64 < (a.sectors.length : Int) by omega), decide_eq_true c2, okB_false fun h => by have := h.nc1; omega]; rfl
  rw [decide_eq_false c1, decide_eq_false (show ¬ 64 < (a.volumes.length : Int) by omega), decide_eq_false (show ¬ 64 < (a.sectors.length : Int) by omega), decide_eq_false c2, decide_eq_false (show ¬ 32 < (a.configs.length : Int) by omega)]
  simp only [cond_false]
  have h2 : ∀ fuel, a.configs.length < fuel → loop1 (m16_overflightref10_Check_B1 a) fuel 0 = some (bif a.configs.all (fun c => decide (divOk a c.sectors)) then (0 : Int) else 100) := by
    intro fuel hfl
    refine up_list0 (fun t => some (bif t.all (fun c => decide (divOk a c.sectors)) then (0 : Int) else 100)) a.configs (by omega) ?_ ?_ hfl
    · intro sf; unfold m16_overflightref10_Check_B1; simp
    · intro sf i x t h1 h2 h3 ih
      obtain ⟨_, rfl⟩ := List.getElem?_eq_some_iff.1 h2
      unfold m16_overflightref10_Check_B1
      have g1 : a.configs.getD (i : Int).toNat default = a.configs[i] := by simp [h1]
      simp only [decide_eq_true (ipos h1), cond_true, g1, h3, List.all_cons]
      rw [ck_eq (by omega), m33_eq a hf _ (hf.cl _ (List.getElem_mem _)), Option.bind_some, ih]
      cases decide (divOk a a.configs[i].sectors) <;> rfl
  have h1 : loop1 (m16_overflightref10_Check_B0 a) (((a.sectors.length : Int) - 0).toNat + 1) 0 = some (bif a.sectors.all (fun s => decide (s.volumes ≠ []) && decide (idxOk a.volumes.length s.volumes)) && a.configs.all (fun c => decide (divOk a c.sectors)) then (0 : Int) else 100) := by
    refine up_list0 (fun t => some (bif t.all (fun s => decide (s.volumes ≠ []) && decide (idxOk a.volumes.length s.volumes)) && a.configs.all (fun c => decide (divOk a c.sectors)) then (0 : Int) else 100)) a.sectors (by omega) ?_ ?_ (show a.sectors.length < ((a.sectors.length : Int) - 0).toNat + 1 by omega)
    · intro sf; unfold m16_overflightref10_Check_B0
      simp only [Int.lt_irrefl, decide_false, cond_false, List.all_nil, Bool.true_and]
      exact h2 _ (by omega)
    · intro sf i x t h1 h2 h3 ih
      obtain ⟨_, rfl⟩ := List.getElem?_eq_some_iff.1 h2
      unfold m16_overflightref10_Check_B0
      have g1 : a.sectors.getD (i : Int).toNat default = a.sectors[i] := by simp [h1]
      have hsl := hf.sl _ (List.getElem_mem h1)
      simp only [decide_eq_true (ipos h1), cond_true, g1, h3, List.all_cons, jn_eq]
      rw [ck_eq (by omega), ck_eq (by omega), m32_eq _ _ (by omega), Option.bind_some, ih]
      by_cases e : a.sectors[i].volumes = []
      · simp [e]
      · have e2 : ¬ ((a.sectors[i].volumes.length : Int) = 0) := fun h => e (List.length_eq_zero_iff.1 (by omega))
        rw [decide_eq_false e2, decide_eq_true e]
        cases decide (idxOk a.volumes.length a.sectors[i].volumes) <;> rfl
  rw [h1]
  congr 2
  rw [Bool.eq_iff_iff, okB_true]
  simp only [Bool.and_eq_true, List.all_eq_true, decide_eq_true_eq]
  exact ⟨fun h => ⟨by omega, by omega, h.1, h.2⟩, fun h => ⟨h.sec, h.cfg⟩⟩
/-! the sector of a volume -/
def secOf (a : XAirspace) (volume : Int) (c : List Int) : Int × Bool := match c.find? (fun s => decide (0 ≤ s) && (decide (s < (a.sectors.length : Int)) && decide (volume ∈ (a.sectors.getD s.toNat default).volumes))) with
  | some s => (s, true)
  | none => (0, false)
def sectorM (a : XAirspace) (konfig volume : Int) : Int × Bool := bif decide (konfig < 0) || decide ((a.configs.length : Int) ≤ konfig) then (0, false) else secOf a volume (a.configs.getD konfig.toNat default).sectors
theorem m39_eq (s : List Int) (v : Int) (hl : s.length < 9223372036854775807) : ∃ n : Int, m39_slices_Indexint_int_ s v = some n ∧ (0 ≤ n ↔ v ∈ s) ∧ (n < 0 → n = -1) ∧ (0 ≤ n → s.getD n.toNat default = v ∧ n.toNat < s.length ∧ ∀ k < n.toNat, s.getD k default ≠ v) := by
  let F : Nat → List Int → Int := fun i t => if v ∈ t then ((i + t.idxOf v : Nat) : Int) else -1
  have hF : m39_slices_Indexint_int_ s v = some (F 0 s) := by
    unfold m39_slices_Indexint_int_
    refine up_listI (fun i t => some (F i t)) s hl ?_ ?_ (show s.length < ((s.length : Int) - 0).toNat + 1 by omega)
    · intro sf; unfold m39_slices_Indexint_int__B0; simp [F]
    · intro sf i x t h1 h2 h3 ih
      obtain ⟨_, rfl⟩ := List.getElem?_eq_some_iff.1 h2
      unfold m39_slices_Indexint_int__B0
      have g1 : s.getD (i : Int).toNat default = s[i] := by simp [h1]
      simp only [decide_eq_true (ipos h1), cond_true, g1, h3, ih]
      rw [ck_eq (by omega)]
      by_cases h : v = s[i]
      · rw [decide_eq_true h, cond_true]; simp [F, ← h]
      · rw [decide_eq_false h, cond_false]
        simp only [F, List.mem_cons, h, false_or]
        by_cases hm : v ∈ t
        · simp only [hm, if_true]; rw [List.idxOf_cons, show (s[i] == v) = false by simpa using Ne.symm h]; simp; omega
        · simp only [hm, if_false]
  refine ⟨F 0 s, hF, ?_, ?_, ?_⟩
  · simp only [F]; by_cases hm : v ∈ s
    · simp only [hm, if_true, iff_true]; omega
    · simp only [hm, if_false]; exact ⟨fun h => by omega, fun h => h.elim⟩
  · simp only [F]; split
    · intro h; omega
    · intro _; rfl
  · simp only [F]; by_cases hm : v ∈ s
    · simp only [hm, if_true, Nat.zero_add, Int.toNat_natCast]
      intro _
      have hlt := List.idxOf_lt_length_of_mem hm
      refine ⟨by rw [show s.getD (s.idxOf v) default = s[s.idxOf v] by simp [hlt]]; exact List.getElem_idxOf hlt, hlt, fun k hk e => ?_⟩
      have hk' : k < s.length := by omega
      rw [show s.getD k default = s[k] by simp [hk']] at e
      have := List.not_of_lt_findIdx (xs := s) (p := fun x => x == v) (i := k) hk
      simp [e] at this
    · simp only [hm, if_false]; omega
theorem m29_eq (s : List Int) (v : Int) (hl : s.length < 9223372036854775807) : m29_slices_Containsint_int_ s v = some (decide (v ∈ s)) := by
  obtain ⟨n, h1, h2, _⟩ := m39_eq s v hl
  unfold m29_slices_Containsint_int_
  rw [h1, Option.bind_some]; simp only [h2]
theorem m13_eq (a : XAirspace) (hf : Few10 a) (konfig volume : Int) : m13_configs_Sector a konfig volume = some (sectorM a konfig volume) := by
  have hnc := hf.nc
  unfold m13_configs_Sector sectorM
  simp only [jn_eq]
  by_cases c1 : konfig < 0
  · rw [decide_eq_true c1]; rfl
  by_cases c2 : (a.configs.length : Int) ≤ konfig
  · rw [decide_eq_false c1, decide_eq_true c2]; rfl
  rw [decide_eq_false c1, decide_eq_false c2]
  simp only [cond_false, Bool.false_or]
  rw [ck_eq (by omega)]
  have hmem : a.configs.getD konfig.toNat default ∈ a.configs := by rw [show a.configs.getD konfig.toNat default = a.configs[konfig.toNat]'(by omega) by simp [show konfig.toNat < a.configs.length by omega]]; exact List.getElem_mem _
  have hcl := hf.cl _ hmem
  refine up_list0 (fun t => some (secOf a volume t)) (a.configs.getD konfig.toNat default).sectors (by omega) ?_ ?_ (show _ < (((a.configs.getD konfig.toNat default).sectors.length : Int) - 0).toNat + 1 by omega)
  · intro sf; unfold m13_configs_Sector_B0; simp [secOf]
  · intro sf i x t h1 h2 h3 ih
    obtain ⟨_, rfl⟩ := List.getElem?_eq_some_iff.1 h2
    unfold m13_configs_Sector_B0
    generalize hS : (a.configs.getD konfig.toNat default).sectors = S at *
    have g1 : S.getD (i : Int).toNat default = S[i] := by simp [h1]
    simp only [decide_eq_true (ipos h1), cond_true, g1, h3, jn_eq, ih]
    have hck : (0 : Int) ≤ (i : Int) ∧ (i : Int) < (S.length : Int) := by omega
    simp only [ck_eq hck]
    have es : secOf a volume (S[i] :: t) = bif decide (0 ≤ S[i]) && (decide (S[i] < (a.sectors.length : Int)) && decide (volume ∈ (a.sectors.getD S[i].toNat default).volumes)) then (S[i], true) else secOf a volume t := by
      unfold secOf; rw [List.find?_cons]
      cases (decide (0 ≤ S[i]) && (decide (S[i] < (a.sectors.length : Int)) && decide (volume ∈ (a.sectors.getD S[i].toNat default).volumes))) <;> rfl
    rw [es]
    by_cases k1 : 0 ≤ S[i]
    · by_cases k2 : S[i] < (a.sectors.length : Int)
      · rw [decide_eq_true k1, decide_eq_true k2]
        simp only [cond_true, Bool.true_and]
        rw [ck_eq (by omega), m29_eq _ _ (by have := sec_len hf S[i].toNat; omega), Option.bind_some]
        cases decide (volume ∈ (a.sectors.getD S[i].toNat default).volumes) <;> rfl
      · rw [decide_eq_false k2]; simp
    · rw [decide_eq_false k1]; simp
theorem m14_eq (a : XAirspace) (hf : Few10 a) (konfig volume : Int) : m14_overflightref10_Sector a konfig volume = some (sectorM a konfig volume) := by
  have hnc := hf.nc
  unfold m14_overflightref10_Sector sectorM
  simp only [jn_eq]
  by_cases c1 : konfig < 0
  · rw [decide_eq_true c1]; rfl
  by_cases c2 : (a.configs.length : Int) ≤ konfig
  · rw [decide_eq_false c1, decide_eq_true c2]; rfl
  rw [decide_eq_false c1, decide_eq_false c2]
  simp only [cond_false, Bool.false_or]
  rw [ck_eq (by omega)]
  have hmem : a.configs.getD konfig.toNat default ∈ a.configs := by rw [show a.configs.getD konfig.toNat default = a.configs[konfig.toNat]'(by omega) by simp [show konfig.toNat < a.configs.length by omega]]; exact List.getElem_mem _
  have hcl := hf.cl _ hmem
  refine up_list0 (fun t => some (secOf a volume t)) (a.configs.getD konfig.toNat default).sectors (by omega) ?_ ?_ (show _ < (((a.configs.getD konfig.toNat default).sectors.length : Int) - 0).toNat + 1 by omega)
  · intro sf; unfold m14_overflightref10_Sector_B0; simp [secOf]
  · intro sf i x t h1 h2 h3 ih
    obtain ⟨_, rfl⟩ := List.getElem?_eq_some_iff.1 h2
    unfold m14_overflightref10_Sector_B0
    generalize hS : (a.configs.getD konfig.toNat default).sectors = S at *
    have g1 : S.getD (i : Int).toNat default = S[i] := by simp [h1]
    simp only [decide_eq_true (ipos h1), cond_true, g1, h3, jn_eq, ih]
    have hck : (0 : Int) ≤ (i : Int) ∧ (i : Int) < (S.length : Int) := by omega
    simp only [ck_eq hck]
    have es : secOf a volume (S[i] :: t) = bif decide (0 ≤ S[i]) && (decide (S[i] < (a.sectors.length : Int)) && decide (volume ∈ (a.sectors.getD S[i].toNat default).volumes)) then (S[i], true) else secOf a volume t := by
      unfold secOf; rw [List.find?_cons]
      cases (decide (0 ≤ S[i]) && (decide (S[i] < (a.sectors.length : Int)) && decide (volume ∈ (a.sectors.getD S[i].toNat default).volumes))) <;> rfl
    rw [es]
    by_cases k1 : 0 ≤ S[i]
    · by_cases k2 : S[i] < (a.sectors.length : Int)
      · rw [decide_eq_true k1, decide_eq_true k2]
        simp only [cond_true, Bool.true_and]
        rw [ck_eq (by omega), m30_eq _ _ (by have := sec_len hf S[i].toNat; omega), Option.bind_some]
        cases decide (volume ∈ (a.sectors.getD S[i].toNat default).volumes) <;> rfl
      · rw [decide_eq_false k2]; simp
    · rw [decide_eq_false k1]; simp
end Go.Fx



set_option linter.unusedVariables false
set_option linter.unusedSimpArgs false
set_option maxRecDepth 100000
set_option maxHeartbeats 0
namespace Go.Fx
open Go Go.RowKit Go.Proofs
end Go.Fx



set_option linter.unusedVariables false
set_option linter.unusedSimpArgs false
set_option maxRecDepth 100000
set_option maxHeartbeats 0
namespace Go.Fx
open Go Go.RowKit Go.Proofs
end Go.Fx



set_option linter.unusedVariables false
set_option linter.unusedSimpArgs false
set_option maxRecDepth 100000
set_option maxHeartbeats 0
namespace Go.Fx
open Go Go.RowKit Go.Proofs
end Go.Fx



/- Chapter 10: the program's divisions are those of the document; splits and merges. -/
set_option linter.unusedSimpArgs false
set_option linter.unusedVariables false
set_option linter.unusedSectionVars false
namespace Go.Fx
open Go Go.RowKit
/-! masks -/
theorem testBit_or_pow {x k w : Nat} : (x ||| 2 ^ k).testBit w = (x.testBit w || decide (k = w)) := by
  rw [Nat.testBit_or]
  by_cases e : k = w
  · subst e; simp
  · rw [Nat.testBit_two_pow_of_ne e, decide_eq_false e]
theorem secGo_sound {nv : Nat} : ∀ {t : List Int} {x y : Nat}, secGo nv x t = some y → (∀ v ∈ t, 0 ≤ v ∧ v < nv) ∧ t.Nodup ∧ (∀ v ∈ t, x.testBit v.toNat = false) ∧ ∀ w, y.testBit w = (x.testBit w || decide ((w : Int) ∈ t)) := by
  intro t
  induction t with
  | nil => intro x y h; cases h; simp
  | cons v t ih =>
    intro x y h
    unfold secGo at h
    cases hc : (decide (v < 0) || (decide ((nv : Int) ≤ v) || x.testBit v.toNat))
    · rw [hc, cond_false] at h
      simp only [Bool.or_eq_false_iff, decide_eq_false_iff_not] at hc
      obtain ⟨h1, h2, h3, h4⟩ := ih h
      have h3' : ∀ u ∈ t, x.testBit u.toNat = false ∧ ¬ v.toNat = u.toNat := fun u hu => by
        have := h3 u hu; rw [testBit_or_pow, Bool.or_eq_false_iff, decide_eq_false_iff_not] at this; exact this
      refine ⟨?_, ?_, ?_, ?_⟩
      · intro u hu
        rcases List.mem_cons.1 hu with rfl | hu
        · omega
        · exact h1 u hu
      · exact List.nodup_cons.2 ⟨fun hm => (h3' v hm).2 rfl, h2⟩
      · intro u hu
        rcases List.mem_cons.1 hu with rfl | hu
        · exact hc.2.2
        · exact (h3' u hu).1
      · intro w
        rw [h4 w, testBit_or_pow, Bool.or_assoc]
        congr 1
        rw [Bool.eq_iff_iff]
        simp only [Bool.or_eq_true, decide_eq_true_eq, List.mem_cons]
        constructor
        · rintro (h | h)
          · left; omega
          · exact .inr h
        · rintro (h | h)
          · left; omega
          · exact .inr h
    · rw [hc] at h; cases h
theorem secGo_comp {nv : Nat} : ∀ {t : List Int} {x : Nat}, (∀ v ∈ t, 0 ≤ v ∧ v < (nv : Int)) → t.Nodup → (∀ v ∈ t, x.testBit v.toNat = false) → ∃ y, secGo nv x t = some y := by
  intro t
  induction t with
  | nil => intro x _ _ _; exact ⟨x, rfl⟩
  | cons v t ih =>
    intro x h1 h2 h3
    have hv := h1 v (by simp)
    have hn := List.nodup_cons.1 h2
    obtain ⟨y, hy⟩ := ih (x := x ||| 2 ^ v.toNat) (fun u hu => h1 u (by simp [hu])) hn.2 fun u hu => by
      rw [testBit_or_pow, h3 u (by simp [hu]), Bool.false_or, decide_eq_false_iff_not]
      intro e
      have hu' := h1 u (by simp [hu])
      exact hn.1 (by rw [show v = u by omega]; exact hu)
    refine ⟨y, ?_⟩
    unfold secGo
    rw [decide_eq_false (show ¬ v < 0 by omega), decide_eq_false (show ¬ (nv : Int) ≤ v by omega), h3 v (by simp)]
    exact hy
theorem secV_sound {nv : Nat} {l : List Int} {y : Nat} (h : secV nv l = some y) : l ≠ [] ∧ idxOk nv l ∧ ∀ w, y.testBit w = decide ((w : Int) ∈ l) := by
  unfold secV at h
  cases h1 : secGo nv 0 l with
  | none => rw [h1] at h; cases h
  | some x =>
    rw [h1, Option.bind_some] at h
    split at h
    · cases h
    · rename_i hx
      cases h
      obtain ⟨a1, a2, _, a4⟩ := secGo_sound h1
      refine ⟨fun e => ?_, ⟨a1, a2⟩, fun w => by rw [a4 w, Nat.zero_testBit, Bool.false_or]⟩
      subst e; cases h1; exact hx rfl
theorem secV_comp {nv : Nat} {l : List Int} (h1 : l ≠ []) (h2 : idxOk nv l) : ∃ y, secV nv l = some y := by
  obtain ⟨y, hy⟩ := secGo_comp (nv := nv) (x := 0) h2.1 h2.2 fun v _ => Nat.zero_testBit _
  unfold secV
  rw [hy, Option.bind_some]
  refine ⟨y, if_neg ?_⟩
  rintro rfl
  obtain ⟨_, _, _, a4⟩ := secGo_sound hy
  obtain ⟨v, hv⟩ := List.exists_mem_of_ne_nil l h1
  have := a4 v.toNat
  have h0 := (h2.1 v hv).1
  rw [Nat.zero_testBit, Bool.false_or, show ((v.toNat : Nat) : Int) = v by omega, decide_eq_true hv] at this
  cases this
structure Masks (a : XAirspace) (L : List Nat) : Prop where
  len : L.length = a.sectors.length
  bit : ∀ i < a.sectors.length, ∀ w, (L.getD i 0).testBit w = decide ((w : Int) ∈ (a.sectors.getD i default).volumes)
theorem setsGo_sound {nv : Nat} : ∀ {l : List XSector} {L : List Nat}, setsGo nv l = some L → (∀ s ∈ l, s.volumes ≠ [] ∧ idxOk nv s.volumes) ∧ ∀ i < l.length, ∀ w, (L.getD i 0).testBit w = decide ((w : Int) ∈ (l.getD i default).volumes) := by
  intro l
  induction l with
  | nil => intro L h; simp
  | cons s t ih =>
    intro L h
    unfold setsGo at h
    cases h1 : secV nv s.volumes with
    | none => rw [h1] at h; cases h
    | some x =>
      rw [h1, Option.bind_some] at h
      cases h2 : setsGo nv t with
      | none => rw [h2] at h; cases h
      | some M =>
        rw [h2, Option.map_some] at h
        cases h
        obtain ⟨i1, i2⟩ := ih h2
        obtain ⟨a1, a2, a3⟩ := secV_sound h1
        refine ⟨fun z hz => ?_, fun i hi w => ?_⟩
        · rcases List.mem_cons.1 hz with rfl | hz
          · exact ⟨a1, a2⟩
          · exact i1 z hz
        · cases i with
          | zero => exact a3 w
          | succ i => exact i2 i (by simpa using hi) w
theorem setsGo_comp {nv : Nat} : ∀ {l : List XSector}, (∀ s ∈ l, s.volumes ≠ [] ∧ idxOk nv s.volumes) → ∃ L, setsGo nv l = some L := by
  intro l
  induction l with
  | nil => intro _; exact ⟨[], rfl⟩
  | cons s t ih =>
    intro h
    obtain ⟨L, hL⟩ := ih fun z hz => h z (by simp [hz])
    obtain ⟨y, hy⟩ := secV_comp (h s (by simp)).1 (h s (by simp)).2
    exact ⟨y :: L, by unfold setsGo; rw [hy, hL]; rfl⟩
/-! configurations -/
def orK (secs : List Nat) (x : Nat) (c : List Int) : Nat := c.foldl (fun x s => x ||| secs.getD s.toNat 0) x
def putK (secs : List Nat) (d : List (Int × Bool)) (c : List Int) : List (Int × Bool) := c.foldl (fun d s => mput d (secs.getD s.toNat 0 : Nat) true) d
theorem or_and_zero {x m y : Nat} : (x ||| m) &&& y = 0 ↔ x &&& y = 0 ∧ m &&& y = 0 := by
  rw [Nat.and_or_distrib_right, Nat.or_eq_zero_iff]
theorem and_zero {x y : Nat} : x &&& y = 0 ↔ ∀ w, x.testBit w = true → y.testBit w = false := by
  constructor
  · intro h w hx
    have : (x &&& y).testBit w = false := by rw [h]; exact Nat.zero_testBit w
    rw [Nat.testBit_and, hx, Bool.true_and] at this; exact this
  · intro h
    refine Nat.eq_of_testBit_eq fun w => ?_
    rw [Nat.testBit_and, Nat.zero_testBit]
    cases hx : x.testBit w
    · rfl
    · rw [h w hx]; rfl
theorem cfgGo_sound {secs : List Nat} : ∀ {t : List Int} {x : Nat} {d : List (Int × Bool)} {p : Nat × List (Int × Bool)}, cfgGo secs x d t = some p → (∀ s ∈ t, 0 ≤ s ∧ s < (secs.length : Int)) ∧ t.Pairwise (fun s u => secs.getD s.toNat 0 &&& secs.getD u.toNat 0 = 0) ∧ (∀ s ∈ t, x &&& secs.getD s.toNat 0 = 0) ∧ p = (orK secs x t, putK secs d t) := by
  intro t
  induction t with
  | nil => intro x d p h; cases h; simp [orK, putK]
  | cons s t ih =>
    intro x d p h
    unfold cfgGo at h
    cases hc : (decide (s < 0) || (decide ((secs.length : Int) ≤ s) || decide (x &&& secs.getD s.toNat 0 ≠ 0)))
    · rw [hc, cond_false] at h
      simp only [Bool.or_eq_false_iff, decide_eq_false_iff_not, ne_eq, Decidable.not_not] at hc
      obtain ⟨h1, h2, h3, h4⟩ := ih h
      refine ⟨?_, ?_, ?_, h4⟩
      · intro u hu
        rcases List.mem_cons.1 hu with rfl | hu
        · omega
        · exact h1 u hu
      · exact List.pairwise_cons.2 ⟨fun u hu => (or_and_zero.1 (h3 u hu)).2, h2⟩
      · intro u hu
        rcases List.mem_cons.1 hu with rfl | hu
        · exact hc.2.2
        · exact (or_and_zero.1 (h3 u hu)).1
    · rw [hc] at h; cases h
theorem cfgGo_comp {secs : List Nat} : ∀ {t : List Int} {x : Nat} {d : List (Int × Bool)}, (∀ s ∈ t, 0 ≤ s ∧ s < (secs.length : Int)) → t.Pairwise (fun s u => secs.getD s.toNat 0 &&& secs.getD u.toNat 0 = 0) → (∀ s ∈ t, x &&& secs.getD s.toNat 0 = 0) → cfgGo secs x d t = some (orK secs x t, putK secs d t) := by
  intro t
  induction t with
  | nil => intro x d _ _ _; rfl
  | cons s t ih =>
    intro x d h1 h2 h3
    have hp := List.pairwise_cons.1 h2
    have hs := h1 s (by simp)
    unfold cfgGo
    rw [decide_eq_false (show ¬ s < 0 by omega), decide_eq_false (show ¬ (secs.length : Int) ≤ s by omega), decide_eq_false (show ¬ (x &&& secs.getD s.toNat 0 ≠ 0) from fun h => h (h3 s (by simp)))]
    exact ih (fun u hu => h1 u (by simp [hu])) hp.2 fun u hu => or_and_zero.2 ⟨h3 u (by simp [hu]), hp.1 u hu⟩
theorem orK_bit {secs : List Nat} {w : Nat} : ∀ {c : List Int} {x : Nat}, (orK secs x c).testBit w = (x.testBit w || c.any fun s => (secs.getD s.toNat 0).testBit w) := by
  intro c
  induction c with
  | nil => intro x; simp [orK]
  | cons s t ih =>
    intro x
    show (orK secs (x ||| secs.getD s.toNat 0) t).testBit w = _
    rw [ih, Nat.testBit_or, List.any_cons, Bool.or_assoc]
theorem count_le_one {α : Type} {p : α → Bool} : ∀ {l : List α}, l.Pairwise (fun a b => ¬ (p a = true ∧ p b = true)) → l.countP p ≤ 1 := by
  intro l
  induction l with
  | nil => intro _; simp
  | cons a t ih =>
    intro h
    have hp := List.pairwise_cons.1 h
    rw [List.countP_cons]
    by_cases ha : p a = true
    · have : t.countP p = 0 := List.countP_eq_zero.2 fun b hb hpb => hp.1 b hb ⟨ha, hpb⟩
      rw [this, if_pos ha]; exact Nat.le_refl _
    · rw [if_neg ha]; exact ih hp.2
theorem two_count {α : Type} {p : α → Bool} {A : List α} {a b : α} (ha : a ∈ A) (hb : b ∈ A) (hne : a ≠ b) (pa : p a = true) (pb : p b = true) : 2 ≤ A.countP p := by
  obtain ⟨l1, l2, rfl⟩ := List.append_of_mem ha
  rw [List.countP_append, List.countP_cons, pa]
  rcases List.mem_append.1 hb with h | h
  · have : 0 < l1.countP p := List.countP_pos_iff.2 ⟨b, h, pb⟩; simp; omega
  · rcases List.mem_cons.1 h with h | h
    · exact absurd h.symm hne
    · have : 0 < l2.countP p := List.countP_pos_iff.2 ⟨b, h, pb⟩; simp; omega
section cfg
variable {a : XAirspace} {secs : List Nat} (hm : Masks a secs) (hsec : ∀ s ∈ a.sectors, s.volumes ≠ [] ∧ idxOk a.volumes.length s.volumes)
include hm hsec
theorem bit_has {s : Int} (h : 0 ≤ s ∧ s < (a.sectors.length : Int)) (v : Nat) : (secs.getD s.toNat 0).testBit v = hasV a v s := by
  rw [hm.bit s.toNat (by omega) v]; rfl
theorem bit_lt {s : Int} (h : 0 ≤ s ∧ s < (a.sectors.length : Int)) {v : Nat} (hb : (secs.getD s.toNat 0).testBit v = true) : v < a.volumes.length := by
  rw [hm.bit s.toNat (by omega) v, decide_eq_true_eq] at hb
  have hmem : a.sectors.getD s.toNat default ∈ a.sectors := by rw [show a.sectors.getD s.toNat default = a.sectors[s.toNat]'(by omega) by simp [show s.toNat < a.sectors.length by omega]]; exact List.getElem_mem _
  have := (hsec _ hmem).2.1 _ hb
  omega
theorem bit_ex {s : Int} (h : 0 ≤ s ∧ s < (a.sectors.length : Int)) : ∃ v < a.volumes.length, (secs.getD s.toNat 0).testBit v = true := by
  have hmem : a.sectors.getD s.toNat default ∈ a.sectors := by rw [show a.sectors.getD s.toNat default = a.sectors[s.toNat]'(by omega) by simp [show s.toNat < a.sectors.length by omega]]; exact List.getElem_mem _
  obtain ⟨h1, h2⟩ := hsec _ hmem
  obtain ⟨v, hv⟩ := List.exists_mem_of_ne_nil _ h1
  have := h2.1 v hv
  refine ⟨v.toNat, by omega, ?_⟩
  rw [hm.bit s.toNat (by omega), show ((v.toNat : Nat) : Int) = v by omega, decide_eq_true hv]
theorem all_bits (x : Nat) : x = 2 ^ a.volumes.length - 1 ↔ ∀ w, x.testBit w = decide (w < a.volumes.length) := by
  constructor
  · rintro rfl w; exact Nat.testBit_two_pow_sub_one _ _
  · intro h; exact Nat.eq_of_testBit_eq fun w => by rw [h w, Nat.testBit_two_pow_sub_one]
theorem cfgV_sound {c : List Int} {d : List (Int × Bool)} (h : cfgV a.volumes.length secs c = some d) : divOk a c ∧ d = putK secs [] c := by
  unfold cfgV at h
  cases h1 : cfgGo secs 0 [] c with
  | none => rw [h1] at h; cases h
  | some p =>
    rw [h1, Option.bind_some] at h
    split at h
    · rename_i hp
      cases h
      obtain ⟨a1, a2, _, a4⟩ := cfgGo_sound h1
      subst a4
      have hall := (all_bits hm hsec _).1 hp
      rw [hm.len] at a1
      refine ⟨⟨⟨a1, ?_⟩, fun v hv => ?_⟩, rfl⟩
      · refine a2.imp_of_mem fun {s u} hs hu hd e => ?_
        subst e
        obtain ⟨v, _, hb⟩ := bit_ex hm hsec (a1 _ hs)
        have := and_zero.1 hd v hb
        rw [hb] at this; cases this
      · have h2 : c.countP (hasV a v) ≤ 1 := count_le_one (a2.imp_of_mem fun {s u} hs hu hd hh => by
          have := and_zero.1 hd v (by rw [bit_has hm hsec (a1 _ hs)]; exact hh.1)
          rw [bit_has hm hsec (a1 _ hu), hh.2] at this; cases this)
        have h3 : 0 < c.countP (hasV a v) := by
          have := hall v
          rw [orK_bit, Nat.zero_testBit, Bool.false_or, decide_eq_true hv, List.any_eq_true] at this
          obtain ⟨s, hs, hb⟩ := this
          exact List.countP_pos_iff.2 ⟨s, hs, by rw [← bit_has hm hsec (a1 _ hs)]; exact hb⟩
        omega
    · cases h
theorem div_disj {c : List Int} (h : divOk a c) : c.Pairwise (fun s u => secs.getD s.toNat 0 &&& secs.getD u.toNat 0 = 0) := by
  refine List.Pairwise.imp_of_mem (R := fun a b => a ≠ b) (fun {s u} hs hu hne => and_zero.2 fun w hw => ?_) h.1.2
  have hlt := bit_lt hm hsec (h.1.1 _ hs) hw
  cases hb : (secs.getD u.toNat 0).testBit w
  · rfl
  · have := two_count (p := hasV a w) hs hu hne (by rw [← bit_has hm hsec (h.1.1 _ hs)]; exact hw) (by rw [← bit_has hm hsec (h.1.1 _ hu)]; exact hb)
    have := h.2 w hlt
    omega
theorem cfgV_comp {c : List Int} (h : divOk a c) : cfgV a.volumes.length secs c = some (putK secs [] c) := by
  unfold cfgV
  rw [cfgGo_comp (x := 0) (d := []) (by rw [hm.len]; exact h.1.1) (div_disj hm hsec h) (fun s _ => Nat.zero_and _), Option.bind_some]
  refine if_pos ((all_bits hm hsec _).2 fun w => ?_)
  rw [orK_bit, Nat.zero_testBit, Bool.false_or, Bool.eq_iff_iff, List.any_eq_true, decide_eq_true_eq]
  constructor
  · rintro ⟨s, hs, hb⟩; exact bit_lt hm hsec (h.1.1 _ hs) hb
  · intro hw
    have := h.2 w hw
    obtain ⟨s, hs, hp⟩ := List.countP_pos_iff.1 (show 0 < c.countP (hasV a w) by omega)
    exact ⟨s, hs, by rw [bit_has hm hsec (h.1.1 _ hs)]; exact hp⟩
theorem divGo_sound : ∀ {l : List XConfig} {L : List (List (Int × Bool))}, divGo a.volumes.length secs l = some L → (∀ c ∈ l, divOk a c.sectors) ∧ L = l.map fun c => putK secs [] c.sectors := by
  intro l
  induction l with
  | nil => intro L h; cases h; simp
  | cons c t ih =>
    intro L h
    unfold divGo at h
    cases h1 : cfgV a.volumes.length secs c.sectors with
    | none => rw [h1] at h; cases h
    | some d =>
      rw [h1, Option.bind_some] at h
      cases h2 : divGo a.volumes.length secs t with
      | none => rw [h2] at h; cases h
      | some M =>
        rw [h2, Option.map_some] at h
        cases h
        obtain ⟨i1, i2⟩ := ih h2
        obtain ⟨a1, a2⟩ := cfgV_sound hm hsec h1
        subst a2 i2
        refine ⟨fun z hz => ?_, rfl⟩
        rcases List.mem_cons.1 hz with rfl | hz
        · exact a1
        · exact i1 z hz
theorem divGo_comp : ∀ {l : List XConfig}, (∀ c ∈ l, divOk a c.sectors) → divGo a.volumes.length secs l = some (l.map fun c => putK secs [] c.sectors) := by
  intro l
  induction l with
  | nil => intro _; rfl
  | cons c t ih =>
    intro h
    unfold divGo
    rw [cfgV_comp hm hsec (h c (by simp)), ih fun z hz => h z (by simp [hz])]
    rfl
end cfg
theorem divV_ok {a : XAirspace} (h : OKa a) : ∃ secs, Masks a secs ∧ divV a = some (a.configs.map fun c => putK secs [] c.sectors) := by
  obtain ⟨L, hL⟩ := setsGo_comp h.sec
  have hm : Masks a L := ⟨(setsGo_lt hL).2, (setsGo_sound hL).2⟩
  refine ⟨L, hm, ?_⟩
  unfold divV
  have : shapeB a = true := by unfold shapeB; rw [decide_eq_true h.nv1, decide_eq_true h.nc1]; rfl
  rw [this, cond_true, hL, Option.bind_some, divGo_comp hm h.sec h.cfg]
theorem divV_bad {a : XAirspace} (h : ¬ OKa a) : divV a = none := by
  cases e : divV a with
  | none => rfl
  | some D =>
    exfalso
    unfold divV at e
    cases hs : shapeB a
    · rw [hs] at e; cases e
    · rw [hs, cond_true] at e
      cases h1 : setsGo a.volumes.length a.sectors with
      | none => rw [h1] at e; cases e
      | some L =>
        rw [h1, Option.bind_some] at e
        have hsec := (setsGo_sound h1).1
        have hm : Masks a L := ⟨(setsGo_lt h1).2, (setsGo_sound h1).2⟩
        unfold shapeB at hs
        simp only [Bool.and_eq_true, decide_eq_true_eq] at hs
        exact h ⟨hs.1, hs.2, hsec, (divGo_sound hm hsec e).1⟩
theorem divV_some {a : XAirspace} : (divV a).isSome = okB a := by
  by_cases h : OKa a
  · obtain ⟨secs, _, e⟩ := divV_ok h
    rw [e, okB_true.2 h]; rfl
  · rw [divV_bad h, okB_false h]; rfl
/-! the maps -/
def keysOf (d : List (Int × Bool)) : List Nat := d.map fun p => p.1.toNat
structure MapT (d : List (Int × Bool)) : Prop where
  ris : Ris d
  tru : ∀ p ∈ d, p.2 = true ∧ 0 ≤ p.1
  len : d.length ≤ 10
section keys
variable {a : XAirspace} {secs : List Nat} (hm : Masks a secs) (hsec : ∀ s ∈ a.sectors, s.volumes ≠ [] ∧ idxOk a.volumes.length s.volumes) {c : List Int} (h : divOk a c)
include hm hsec h
end keys
/-! steps -/
def stepN (A B : Nat) : Bool := decide ((A = 0 ∧ B = 0) ∨ (A = 1 ∧ B = 2) ∨ (A = 2 ∧ B = 1))
def stepB (d o : List (Int × Bool)) : Bool := stepN (miss (keysOf d) (keysOf o)) (miss (keysOf o) (keysOf d))
end Go.Fx



/- Chapter 10: steps, of the program and of the document. -/
set_option linter.unusedSimpArgs false
set_option linter.unusedVariables false
namespace Go.Fx
open Go Go.RowKit
def lay (a : XAirspace) : List (List (Int × Bool)) := (divV a).getD []
structure LayOk (a : XAirspace) : Prop where
  nv1 : 1 ≤ a.volumes.length
  nc1 : 1 ≤ a.configs.length
  len : (lay a).length = a.configs.length
  map : ∀ i < a.configs.length, MapT ((lay a).getD i default)
  part : ∀ i < a.configs.length, Part a.volumes.length (keysOf ((lay a).getD i default))
  klen : ∀ i < a.configs.length, (keysOf ((lay a).getD i default)).length = (a.configs.getD i default).sectors.length
  togs : ∀ i < a.configs.length, ∀ v < a.volumes.length, ∀ w, tog (keysOf ((lay a).getD i default)) v w ↔ ∃ s ∈ (a.configs.getD i default).sectors, hasV a v s = true ∧ hasV a w s = true
  cfg : ∀ i < a.configs.length, divOk a (a.configs.getD i default).sectors
def adjN (a : XAirspace) (i j : Nat) : Bool := decide (i ≠ j) && stepB ((lay a).getD i default) ((lay a).getD j default)
theorem m15_eq' (a : XAirspace) (hf : Few10 a) : m15_configs_Check a = some (bif okB a then 0 else 100) := by rw [m15_eq a hf, divV_some]
/-! the document's -/
end Go.Fx



set_option linter.unusedVariables false
set_option linter.unusedSimpArgs false
set_option maxRecDepth 100000
set_option maxHeartbeats 0
namespace Go.Fx
open Go Go.RowKit Go.Proofs
end Go.Fx



set_option linter.unusedVariables false
set_option linter.unusedSimpArgs false
set_option maxRecDepth 100000
set_option maxHeartbeats 0
namespace Go.Fx
open Go Go.RowKit Go.Proofs
end Go.Fx



set_option linter.unusedVariables false
set_option linter.unusedSimpArgs false
set_option maxRecDepth 100000
set_option maxHeartbeats 0
namespace Go.Fx
open Go Go.RowKit Go.Proofs
end Go.Fx



/- Chapter 10: distances, what is reached, and the ways. -/
set_option linter.unusedSimpArgs false
set_option linter.unusedVariables false
namespace Go.Fx
open Go Go.RowKit
/-! the program's neighbours -/
/-! distances -/
/-! the document's distances -/
end Go.Fx



set_option linter.unusedVariables false
set_option linter.unusedSimpArgs false
set_option maxRecDepth 100000
set_option maxHeartbeats 0
namespace Go.Fx
open Go Go.RowKit Go.Proofs
end Go.Fx



set_option linter.unusedVariables false
set_option linter.unusedSimpArgs false
set_option maxRecDepth 100000
set_option maxHeartbeats 0
namespace Go.Fx
open Go Go.RowKit Go.Proofs
end Go.Fx



/- Chapter 10: what is reached, ways, and what is stuck. -/
set_option linter.unusedSimpArgs false
set_option linter.unusedVariables false
namespace Go.Fx
open Go Go.RowKit
/-! ways -/
section ways
variable {a : XAirspace} {to : Nat} {d : List Int} (D : Dist (adjN a) a.configs.length to d)
include D
end ways
end Go.Fx



/- Chapter 10: what is stuck; who reaches whom. -/
set_option linter.unusedSimpArgs false
set_option linter.unusedVariables false
namespace Go.Fx
open Go Go.RowKit
theorem sane10 : m11_overflightlaw10_sane = some true := by kernel_rfl
/-! stuck -/
end Go.Fx



/- ConfigsCheckSpec. -/
set_option linter.unusedSimpArgs false
set_option linter.unusedVariables false
namespace Go.Fx
open Go Go.RowKit
theorem ConfigsCheckSpec_law (a : XAirspace) (konfig volume : Int) (ha : smXAirspace a) (hc : InK .i64 konfig) (hv : InK .i64 volume) : m3_overflightlaw10_ConfigsCheckSpec a konfig volume = some true := by
  unfold m3_overflightlaw10_ConfigsCheckSpec
  rw [sane10, m12_eq a ha]
  simp only [Option.bind_some, Bool.not_true, cond_false]
  cases hf : fewB a
  · rfl
  have F := Few10.of hf
  rw [m13_eq a F, m14_eq a F, m15_eq' a F, m16_eq a F]
  simp
end Go.Fx



namespace Go.Proofs.Ytolafciahogceaa.lawConfigsCheckSpec
open Go Go.Proofs Go.ChangeShapes Go.WideShapes Go.ChangeAt Go.RowKit Go.Fx
open Go.ChangeMaps (open_string shut_string)
set_option linter.unusedVariables false
set_option maxRecDepth 100000
theorem own : ownKnob Try.prog.godebug = none := by kernel_rfl
theorem laidOut : laidOutB Try.prog = true := by kernel_rfl
set_option maxRecDepth 100000 in
set_option maxHeartbeats 1000000 in
theorem lifted (os : Os) (started : os.Started) (H : Type) (enc : TypeId × Value → H) :
    ReturnsInHanded {} Try.checked os 3 .any (Rows.configsCheckSpecSpec.pre6 enc Try.prog Try.f3 Rows.configsCheckSpecRow.domain false) (Rows.configsCheckSpecSpec.post enc Try.prog Try.f3 false true false false) := by
  refine returnsInHanded_of_change_sized (C := Try.checked) own started (by kernel_rfl) Try.func3
    (ChangeSpec.witness6 (enc := enc) (C := Try.checked) false ⟨#[], #[.agg #[(.slice none 0 0), (.slice none 0 0), (.slice none 0 0), (.slice none 0 0), (.slice none 0 0), (.slice none 0 0), (.slice none 0 0), (.slice none 0 0)], (.int .i64 0), (.int .i64 0)], []⟩ 8 (by kernel_rfl) (by kernel_rfl) (by kernel_rfl) (by kernel_rfl)) ?_
  intro W base args ds gs before hval0 hW hcnd hsz _
  have hval : ∀ (j : Nat) t v, Try.f3.params[j]? = some t → args[j]? = some v → Value.okWide Try.prog W .any base t v := hval0
  have hW' := hW
  obtain ⟨p, q, hA0, hV, rfl, hfz, hnd⟩ := hW
  have hA : DataW.TrodAll enc Try.prog W 0 (fun _ => true) true Try.f3.params.toList args.toList ds p := hA0
  rw [Try.params3] at hA hval
  obtain ⟨v0, vs0, d0, ds0, p0, q0, hargs, rfl, rfl, h0, r0⟩ := trodAll_cons hA
  obtain ⟨v1, vs1, d1, ds1, p1, q1, rfl, rfl, rfl, h1, r1⟩ := trodAll_cons r0
  obtain ⟨v2, vs2, d2, ds2, p2, q2, rfl, rfl, rfl, h2, r2⟩ := trodAll_cons r1
  obtain ⟨rfl, rfl, rfl⟩ := trodAll_nil r2
  obtain rfl : args = #[v0, v1, v2] := by cases args; simp_all
  obtain ⟨rfl, rfl⟩ := trodVars_none hV
  have k0 := h0
  have lt0 : ∀ x ∈ p0, x.block < W.heap.size := by obtain ⟨m, hm⟩ := k0; exact DataW.trod_lt m _ _ _ hm
  obtain ⟨fu0, hf0⟩ := h0
  obtain ⟨a, rr0, sm0⟩ := rd31.2 _ _ _ hf0
  replace sm0 := sm0 (fun n hn => by have := List.all_eq_true.1 hsz n (DataW.weights_mem_each (j := 0) (t := 31) rfl rfl n hn); simpa using this)
  obtain ⟨⟨cs0⟩, rfl, _⟩ := okWide_struct Try.underlying31 (hval 0 31 v0 rfl rfl)
  replace rr0 : rXAirspace.rd W [] cs0 a := rr0
  obtain ⟨_, _, rfl, ⟨a_a_volumes, c_a_volumes, rfl, f_a_volumes⟩, ⟨_, _, rfl, ⟨a_a_sectors, c_a_sectors, rfl, f_a_sectors⟩, ⟨_, _, rfl, ⟨a_a_configs, c_a_configs, rfl, f_a_configs⟩, ⟨_, _, rfl, ⟨a_a_segments, c_a_segments, rfl, f_a_segments⟩, ⟨_, _, rfl, ⟨a_a_routes, c_a_routes, rfl, f_a_routes⟩, ⟨_, _, rfl, ⟨a_a_airports, c_a_airports, rfl, f_a_airports⟩, ⟨_, _, rfl, ⟨a_a_classes, c_a_classes, rfl, f_a_classes⟩, ⟨a_a_rules, c_a_rules, rfl, f_a_rules⟩⟩⟩⟩⟩⟩⟩⟩ := rr0
  have k1 := h1
  have lt1 : ∀ x ∈ p1, x.block < W.heap.size := by obtain ⟨m, hm⟩ := k1; exact DataW.trod_lt m _ _ _ hm
  obtain ⟨fu1, hf1⟩ := h1
  obtain ⟨konfig, rr1, sm1⟩ := rd3.2 _ _ _ hf1
  replace sm1 := sm1 (fun n hn => by have := List.all_eq_true.1 hsz n (DataW.weights_mem_each (j := 1) (t := 3) rfl rfl n hn); simpa using this)
  obtain ⟨n1, rfl⟩ := okWide_int Try.underlying3 (hval 1 3 v1 rfl rfl)
  replace rr1 : (rInt .i64).rd W [] [.int .i64 n1] konfig := rr1
  obtain ⟨e1, r_config⟩ := un_int rr1
  obtain rfl : konfig = n1 := by simpa using e1.symm
  have k2 := h2
  have lt2 : ∀ x ∈ p2, x.block < W.heap.size := by obtain ⟨m, hm⟩ := k2; exact DataW.trod_lt m _ _ _ hm
  obtain ⟨fu2, hf2⟩ := h2
  obtain ⟨volume, rr2, sm2⟩ := rd3.2 _ _ _ hf2
  replace sm2 := sm2 (fun n hn => by have := List.all_eq_true.1 hsz n (DataW.weights_mem_each (j := 2) (t := 3) rfl rfl n hn); simpa using this)
  obtain ⟨n2, rfl⟩ := okWide_int Try.underlying3 (hval 2 3 v2 rfl rfl)
  replace rr2 : (rInt .i64).rd W [] [.int .i64 n2] volume := rr2
  obtain ⟨e2, r_volume⟩ := un_int rr2
  obtain rfl : volume = n2 := by simpa using e2.symm
  have hm : m3_overflightlaw10_ConfigsCheckSpec a konfig volume = some true := ConfigsCheckSpec_law _ _ _ sm0 sm1 sm2
  have hc := Fn.calls (c3_overflightlaw10_ConfigsCheckSpec (a := a) (konfig := konfig) (volume := volume) (w := W) (O := []) (by simp) f_a_volumes f_a_sectors f_a_configs f_a_segments f_a_routes f_a_airports f_a_classes f_a_rules r_config r_volume hm)
  clear hA0 hval0
  refine Calls.mono hc ?_
  rintro e W' ⟨v, rfl, bel, hv⟩
  replace bel := bel.below; obtain rfl : v = .bool true := hv
  exact ⟨_, rfl, _, _, _, [], _, [], hW', trodAll_mk1 (shut_bool Try.underlying4 _), (trodAll_cons_mk (Below.trod laidOut (by kernel_rfl) (of_decide_eq_true (by kernel_rfl)) k0 bel lt0) (trodAll_cons_mk (Below.trod laidOut (by kernel_rfl) (of_decide_eq_true (by kernel_rfl)) k1 bel lt1) (trodAll_cons_mk (Below.trod laidOut (by kernel_rfl) (of_decide_eq_true (by kernel_rfl)) k2 bel lt2) trodAll_mk0))), rfl, bel.frame _, fun h => by cases h⟩
theorem over : Rows.configsCheckSpecRow.holds Try.pinned (OpenSpec.ofChange Rows.configsCheckSpecSpec) :=
  OpenClaim.holds_of_wide 3 Try.f3 rfl rfl rfl rfl rfl rfl rfl ⟨rfl, rfl, rfl, rfl, rfl⟩ rfl rfl rfl rfl rfl (by kernel_rfl) Try.func3 (by kernel_rfl)
    (of_decide_eq_true (by kernel_rfl)) (by unfold Func.isWrapper; first | (rw [if_pos (by decide +kernel)]; kernel_rfl) | (rw [if_neg (by decide +kernel)]; exact ⟨rfl, rfl⟩))
    (fun os started H enc _ => lifted os started H enc)
theorem proved : Rows.ConfigsCheckSpecSaid := over
end Go.Proofs.Ytolafciahogceaa.lawConfigsCheckSpec


