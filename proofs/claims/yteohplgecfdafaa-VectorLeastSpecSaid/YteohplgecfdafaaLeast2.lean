/- Part 2 of the proof: vectorLeastSpec: Least, Sums and Fits answer as the reference does. -/
import Derived.Test.YteohplgecfdafaaLeast1
set_option linter.unusedVariables false
set_option linter.unusedSimpArgs false
set_option maxRecDepth 100000
set_option maxHeartbeats 0
namespace Go.Fx
open Go Go.RowKit Go.Proofs
def m30_vector_pairs (a : List Int) (b : List Int) : Option (List (Int × Int)) :=
 (m47_vector_pairs_1 a b).bind fun l_1 =>
 some l_1

theorem c30_vector_pairs {w : World} {O : List Nat} {a : List Int} {b : List Int} {a_a : Option Addr} {c_a : Nat} {a_b : Option Addr} {c_b : Nat} (hO : ∀ k ∈ O, k < w.heap.size) (f_a : SlR (rInt .i64) w O a_a c_a a) (f_b : SlR (rInt .i64) w O a_b c_b b) {x : (List (Int × Int))} (hm : m30_vector_pairs a b = some x) :
  Ok Try.prog 30 [(Value.slice a_a a.length c_a), (Value.slice a_b b.length c_b)] w O (vIt Try.prog (enc2 (vI .i64) (vI .i64))) x := by
 unfold m30_vector_pairs at hm
 refine Fn_of_Wp (n := 6) (xs := [.tmp 4]) Try.func30 rfl Try.ntmps30 Try.results30 rfl ?_
 have hs := St.start hO
 refine Wp_seq ?_
 refine Wp_region ?_
 refine Rg_op rfl (op_box (cs := [(Value.slice a_a a.length c_a)]) hs rfl rfl ?_)
 intro b1 w2 _ p3 hs4
 replace f_a := f_a.step p3; replace f_b := f_b.step p3; clear p3
 refine Rg_op rfl (op_box (cs := [(Value.slice a_b b.length c_b)]) hs4 rfl rfl ?_)
 intro b6 w7 _ p8 hs9
 replace f_a := f_a.step p8; replace f_b := f_b.step p8; clear p8 hs4
 refine Rg_op rfl (op_assign (v := Value.nilFunc) rfl ?_)
 refine Rg_nil ?_
 refine Wp_seq ?_
 refine Wp_region ?_
 obtain ⟨hs12, p13, f11⟩ := St.publishP (p := (rSl (rInt .i64))) (i := 1) (x := a) hs9 rfl (mk_sl f_a)
 replace f_a := f_a.step p13; replace f_b := f_b.step p13; clear p13 hs9
 obtain ⟨hs15, p16, f14⟩ := St.publishP (p := (rSl (rInt .i64))) (i := 0) (x := b) hs12 rfl (mk_sl f_b)
 replace f_a := f_a.step p16; replace f_b := f_b.step p16; replace f11 := f11.step p16; clear p16 hs12
 refine Rg_op rfl (op_makeFunc' (a' := []) (c' := [(Value.pointer (some (⟨b1, 0, none⟩ : Addr))), (Value.pointer (some (⟨b6, 0, none⟩ : Addr)))]) rfl rfl ?_)
 replace hm := bd hm; obtain ⟨l_1, hv17, hm⟩ := hm
 have F18 : ItR Try.prog (enc2 (vI .i64) (vI .i64)) w7 (ks [] O) (Value.func (.func 47) #[] #[(Value.pointer (some (⟨b1, 0, none⟩ : Addr))), (Value.pointer (some (⟨b6, 0, none⟩ : Addr)))]) l_1 := ⟨47, [(Value.pointer (some (⟨b1, 0, none⟩ : Addr))), (Value.pointer (some (⟨b6, 0, none⟩ : Addr)))], rfl, Try.call47, c47_vector_pairs_1 hs15.ltw f11 f14 hv17⟩
 refine Rg_op rfl (op_assign (v := (Value.func (.func 47) #[] #[(Value.pointer (some (⟨b1, 0, none⟩ : Addr))), (Value.pointer (some (⟨b6, 0, none⟩ : Addr)))])) rfl ?_)
 refine Rg_nil ?_
 refine Wp_ret ?_
 have hz := step_all hs15
 replace f_a := f_a.step hz; replace f_b := f_b.step hz; replace f11 := f11.step hz; replace f14 := f14.step hz; replace F18 := F18.step hz
 refine ⟨_, (show Closes [] _ _ from rfl), [(Value.func (.func 47) #[] #[(Value.pointer (some (⟨b1, 0, none⟩ : Addr))), (Value.pointer (some (⟨b6, 0, none⟩ : Addr)))])], ⟨rfl, trivial⟩, hs15.ext, ?_⟩
 exact Vr.eq (a := (vIt Try.prog (enc2 (vI .i64) (vI .i64)))) (x := l_1) F18 (Option.some.inj hm)

end Go.Fx



set_option linter.unusedVariables false
set_option linter.unusedSimpArgs false
set_option maxRecDepth 100000
set_option maxHeartbeats 0
namespace Go.Fx
open Go Go.RowKit Go.Proofs
def m13_vector_Add_B0 (sf50 : (List Int) → Option ((List Int) × Int)) (xi41 : Int × Int) (v_2 : List Int) : Option ((List Int) × Int) :=
 ck ((v_2.length + [(IntKind.wrap .i64 (xi41.1 + xi41.2))].length) * 8 ≤ 140737488355328) <|
 sf50 (v_2 ++ [(IntKind.wrap .i64 (xi41.1 + xi41.2))])

def m13_vector_Add (a : List Int) (b : List Int) : Option ((List Int) × Int) :=
 jn (fun (v_1 : Bool) =>
  bif v_1 then
   some (([] : List Int), 60)
  else
   (m30_vector_pairs a b).bind fun pairs_1 =>
   jn (fun (v_2 : List Int) =>
    some (v_2, 0))
   (fun k30 =>
    rng1 m13_vector_Add_B0 k30 pairs_1 ([] : List Int)))
 (fun k8 =>
  bif (decide ((a.length : Int) ≠ (b.length : Int))) then
   k8 true
  else
   (m29_vector_small a).bind fun small_1 =>
   bif (!small_1) then
    k8 true
   else
    (m29_vector_small b).bind fun small_2 =>
    k8 (!small_2))

theorem c13_vector_Add {w : World} {O : List Nat} {a : List Int} {b : List Int} {a_a : Option Addr} {c_a : Nat} {a_b : Option Addr} {c_b : Nat} (hO : ∀ k ∈ O, k < w.heap.size) (f_a : SlR (rInt .i64) w O a_a c_a a) (f_b : SlR (rInt .i64) w O a_b c_b b) {x : (List Int) × Int} (hm : m13_vector_Add a b = some x) :
  Ok Try.prog 13 [(Value.slice a_a a.length c_a), (Value.slice a_b b.length c_b)] w O (vT2 (vC (rSl (rInt .i64))) (vI .i64)) x := by
 unfold m13_vector_Add at hm
 refine Fn_of_Wp (n := 35) (xs := [.cell 4 22, .tmp 5]) Try.func13 rfl Try.ntmps13 Try.results13 rfl ?_
 have hs := St.start hO
 refine Wp_seq ?_
 refine Wp_region ?_
 refine Rg_op rfl (op_alloc ty22 hs ?_)
 intro b1 w2 _ p3 hs4
 replace f_a := f_a.step p3; replace f_b := f_b.step p3; clear p3
 refine Rg_op rfl (op_assign (v := (Value.int .i64 0)) rfl ?_)
 refine Rg_nil ?_
 refine Wp_seq ?_
 refine Wp_reset [] [(0, (Value.slice a_a a.length c_a)), (1, (Value.slice a_b b.length c_b)), (4, (Value.pointer (some ⟨b1, 0, none⟩))), (5, (Value.int .i64 0))] rfl ⟨rfl, rfl, rfl, rfl, trivial⟩ fun ξ6 => ?_
 replace hm := jn_elim hm; obtain ⟨k8, hk9, hm⟩ := hm
 refine Wp_seqJ [8, 9, 10, 11, 12, 13, 14, 15, 16, 17, 18, 19, 20, 21, 22] (fun fr w' => ∃ (v_1 : Bool) (Ebs : Ents), Ebs = [(some b1, Obj.cells [(Value.slice none 0 0)].toArray 22)] ∧ fr [] [(22, (Value.bool v_1))] ∧ Step (ks [(some b1, Obj.cells [(Value.slice none 0 0)].toArray 22)] O) w2 (ks Ebs O) w' ∧ St ⟨w, [], []⟩ O w' Ebs ∧ k8 v_1 = some x) ?_ ?_
 ·
  rintro ρ15 w11 ⟨v_1, Ebs, hEbs, hfr14, hst13, hs12, hm⟩
  replace hm := jnE1 hk9 hm
  subst hEbs; rw [hfr14.eq]; clear hfr14
  replace f_a := f_a.step hst13; replace f_b := f_b.step hst13; clear hst13 hs4
  refine Wp_cond rfl (fun hc16 => ?_) (fun hc16 => ?_)
  ·
   replace hm := bif_t hm hc16
   refine Wp_seq ?_
   clear f_a f_b
   refine Wp_region ?_
   refine Rg_op_ (op_store (cs := [(Value.slice none 0 0)]) (vs := [(Value.slice none 0 0)]) (cs' := [(Value.slice none 0 0)]) (bs' := [(some b1, Obj.cells [(Value.slice none 0 0)].toArray 22)]) (i := 0) ty22 hs12 rfl rfl rfl rfl rfl (le_lit rfl) rfl rfl rfl ?_)
   intro w17 p18 hs19
   clear p18 hs12
   refine Rg_op rfl (op_assign (v := (Value.int .i64 60)) rfl ?_)
   refine Rg_nil ?_
   refine Wp_ret ?_
   have hz := step_all hs19
   refine ⟨_, (show Closes [] _ _ from rfl), [(Value.slice none 0 0), (Value.int .i64 60)], ⟨res1 (cs := [(Value.slice none 0 0)]) ty22 (i := 0) hs19 rfl rfl rfl, rfl, trivial⟩, hs19.ext, ?_⟩
   exact Vr.eq (a := (vT2 (vC (rSl (rInt .i64))) (vI .i64))) (x := (([] : List Int), 60)) (mkT2 (mkC (mk_sl SlR.nil_)) ⟨rfl, (show InK .i64 60 from by decide)⟩) (Option.some.inj hm)
  ·
   replace hm := bif_f hm hc16
   refine Wp_skip ?_
   refine Wp_seq ?_
   refine Wp_seq ?_
   refine Wp_region ?_
   refine Rg_op rfl (op_move (v := (Value.slice a_a a.length c_a)) rfl ?_)
   refine Rg_op rfl (op_move (v := (Value.slice a_b b.length c_b)) rfl ?_)
   replace hm := bd hm; obtain ⟨pairs_1, hv20, hm⟩ := hm
   refine Rg_op rfl (op_call Try.call30 (c30_vector_pairs (a := a) (b := b) hs12.ltw f_a f_b hv20) rfl ?_)
   rintro v21 w22 ⟨hx23, h24⟩
   have hs25 := hs12.call hx23
   have p26 := Step.ext (O := ks [(some b1, Obj.cells [(Value.slice none 0 0)].toArray 22)] O) hx23
   clear hx23
   replace f_a := f_a.step p26; replace f_b := f_b.step p26; clear p26 hs12
   have F_y27 : ItR Try.prog (enc2 (vI .i64) (vI .i64)) _ _ v21 pairs_1 := h24
   refine Rg_nil ?_
   refine Wp_block ?_
   have hit36 := F_y27; obtain ⟨fk32, cp33, hvq34, hcl35, hit36⟩ := hit36
   replace hm := jn_elim hm; obtain ⟨k30, hk31, hm⟩ := hm
   have hs37 := hs25.ghost (Obj.cells #[] 3)
   refine Wp_rangeFunc (σ := (List Int) × (Option Addr) × Nat × (Option Nat) × Obj) (ps := [26, 27]) hs37 (rfl.trans hvq34) hcl35 hit36 rfl enc2_len enc2_step (fun s => match s with | (v_2, a_g29, c_g29, k_g29, o_g29) => [(k_g29, o_g29), (some b1, Obj.cells [(Value.slice a_g29 v_2.length c_g29)].toArray 22)]) (fun s w O => match s with | (v_2, a_g29, c_g29, k_g29, o_g29) => Gs (rInt .i64) 3 w O a_g29 c_g29 v_2 k_g29 o_g29) (fun s w O w' O' p h => by obtain ⟨v_2, a_g29, c_g29, k_g29, o_g29⟩ := s; have h : Gs (rInt .i64) 3 w O a_g29 c_g29 v_2 k_g29 o_g29 := h; have f_g29 := h; exact f_g29.step p) (fun s l => match s with | (v_2, a_g29, c_g29, k_g29, o_g29) => rng1 m13_vector_Add_B0 k30 l v_2 = some x) [] (fun _ _ => False) (([] : List Int), none, 0, none, (Obj.cells #[] 3)) rfl Gs.nil_ hm ?_ ?_ ?_
   ·
    rintro l39 E40 ⟨v_2, a_g29, c_g29, k_g29, o_g29⟩ xi41 rest42 w43 vs44 z45 hz46 hs47 hst48 f_g29 hm hx49
    replace hs47 : St z45 (E40 ++ O) w43 [(k_g29, o_g29), (some b1, Obj.cells [(Value.slice a_g29 v_2.length c_g29)].toArray 22)] := hs47
    have ch52 : Step (ks [(none, (Obj.cells #[] 3)), (some b1, Obj.cells [(Value.slice none 0 0)].toArray 22)] O) w22 (ks [(k_g29, o_g29), (some b1, Obj.cells [(Value.slice a_g29 v_2.length c_g29)].toArray 22)] (E40 ++ O)) w43 := hst48; clear hst48
    replace f_g29 : Gs (rInt .i64) 3 w43 (ks [(k_g29, o_g29), (some b1, Obj.cells [(Value.slice a_g29 v_2.length c_g29)].toArray 22)] (E40 ++ O)) a_g29 c_g29 v_2 k_g29 o_g29 := f_g29
    have hm53 := rng1_s (show rng1 _ _ (xi41 :: rest42) v_2 = some _ from hm); clear hm; obtain ⟨sf50, hsf51, hm⟩ := hm53
    unfold m13_vector_Add_B0 at hm
    replace f_a := f_a.step ch52; replace f_b := f_b.step ch52; replace F_y27 := F_y27.step ch52
    replace hx49 : (enc2 (vI .i64) (vI .i64)) xi41 w43 (ks [(k_g29, o_g29), (some b1, Obj.cells [(Value.slice a_g29 v_2.length c_g29)].toArray 22)] (E40 ++ O)) vs44 := hx49
    obtain ⟨v54, v55, rfl, h56, h57⟩ := hx49
    obtain ⟨rfl, r_y58⟩ := h56
    obtain ⟨rfl, r_y59⟩ := h57
    refine Wp_seq ?_
    refine Wp_region ?_
    refine Rg_op rfl (op_assign (v := (Value.int .i64 xi41.1)) rfl ?_)
    refine Rg_nil ?_
    refine Wp_region ?_
    refine Rg_op rfl (op_assign (v := (Value.int .i64 xi41.2)) rfl ?_)
    refine Rg_nil ?_
    refine Exists.intro _ (And.intro hs47 ?_)
    intro w60 z61 RQ62 hz63 hs64 p65 hN66 hX67
    replace f_a := f_a.step p65; replace f_b := f_b.step p65; replace F_y27 := F_y27.step p65; replace f_g29 := f_g29.step p65; replace ch52 := ch52.trans p65; clear p65 hs47
    refine Wp_block ?_
    clear f_a f_b
    refine Wp_region ?_
    refine Rg_op rfl (op_load (cs := [(Value.slice a_g29 v_2.length c_g29)]) (i := 1) ty22 hs64 rfl rfl rfl ?_)
    refine Rg_op rfl (op_move (v := (Value.int .i64 xi41.1)) rfl ?_)
    refine Rg_op rfl (op_move (v := (Value.int .i64 xi41.2)) rfl ?_)
    refine Rg_op rfl (op_addw rfl rfl ?_)
    refine Rg_op rfl (op_buildSlice (cs := [(Value.int .i64 (IntKind.wrap .i64 (xi41.1 + xi41.2)))]) (parts := [(0, .tmp 31)]) ty22 ty3 hs64 (by decide) rfl ?_)
    intro b68 w69 hx72 p70 hs71
    replace F_y27 := F_y27.step p70; replace f_g29 := f_g29.step p70; replace ch52 := ch52.trans p70; clear p70 hs64
    replace hm := ck_some hm; obtain ⟨hc74, hm⟩ := hm
    refine Rg_op rfl (op_append (q := (rInt .i64)) (i := 1) (xs := v_2) (ys := [(IntKind.wrap .i64 (xi41.1 + xi41.2))]) (news := [(Value.int .i64 (IntKind.wrap .i64 (xi41.1 + xi41.2)))]) ty22 ty3 rfl (by decide) hs71 rfl rfl f_g29 rfl (Src.owned' (len := 1) (hs71.get (i := 0) rfl) rfl) (show Els (rInt .i64) _ _ [(Value.int .i64 (IntKind.wrap .i64 (xi41.1 + xi41.2)))] [(IntKind.wrap .i64 (xi41.1 + xi41.2))] from ⟨_, _, rfl, (mk_int (inK_wrap .i64 _)), Els.nil⟩) hc74 (by have := hc74; simp only [maxLen]; omega) ?_)
    intro a78 c79 k80 o81 w75 p76 hs77 f82
    replace F_y27 := F_y27.step p76; replace ch52 := ch52.trans p76; clear p76 hs71
    have hs83 := hs77.drop 0
    replace F_y27 := F_y27.step (hs77.dropS 0)
    replace f82 := f82.step (hs77.dropS 0)
    replace ch52 := ch52.trans (hs77.dropS 0); clear hs77
    refine Rg_op_ (op_store (cs := [(Value.slice a_g29 v_2.length c_g29)]) (vs := [(Value.slice a78 (v_2 ++ [(IntKind.wrap .i64 (xi41.1 + xi41.2))]).length c79)]) (cs' := [(Value.slice a78 (v_2 ++ [(IntKind.wrap .i64 (xi41.1 + xi41.2))]).length c79)]) (bs' := [(k80, o81), (some b1, Obj.cells [(Value.slice a78 (v_2 ++ [(IntKind.wrap .i64 (xi41.1 + xi41.2))]).length c79)].toArray 22)]) (i := 1) ty22 hs83 rfl rfl rfl rfl rfl (le_lit rfl) rfl rfl rfl ?_)
    intro w84 p85 hs86
    replace F_y27 := F_y27.step p85; replace f82 := f82.step p85; replace ch52 := ch52.trans p85; clear p85 hs83
    refine Rg_nil ?_
    exact hN66 ((v_2 ++ [(IntKind.wrap .i64 (xi41.1 + xi41.2))]), a78, c79, k80, o81) _ _ hs86 ch52 f82 (jnE1 hsf51 hm)
   ·
    rintro D87 ⟨v_2, a_g29, c_g29, k_g29, o_g29⟩ w88 hs89 hst90 f_g29 hm
    replace hs89 : St ⟨w, [], (D87 :: [])⟩ (D87 :: O) w88 [(k_g29, o_g29), (some b1, Obj.cells [(Value.slice a_g29 v_2.length c_g29)].toArray 22)] := hs89
    replace hst90 : Step (ks [(none, (Obj.cells #[] 3)), (some b1, Obj.cells [(Value.slice none 0 0)].toArray 22)] O) w22 (ks [(k_g29, o_g29), (some b1, Obj.cells [(Value.slice a_g29 v_2.length c_g29)].toArray 22)] (D87 :: O)) w88 := hst90
    replace f_g29 : Gs (rInt .i64) 3 w88 (ks [(k_g29, o_g29), (some b1, Obj.cells [(Value.slice a_g29 v_2.length c_g29)].toArray 22)] (D87 :: O)) a_g29 c_g29 v_2 k_g29 o_g29 := f_g29
    replace hm := rng1_z (show rng1 _ _ [] v_2 = some _ from hm)
    replace hm := jnE1 hk31 (show k30 v_2 = some _ from hm)
    replace f_a := f_a.step hst90; replace f_b := f_b.step hst90; replace F_y27 := F_y27.step hst90; clear hst90 hs37
    refine Wp_seq ?_
    clear f_a f_b F_y27
    refine Wp_region ?_
    refine Rg_op rfl (op_load (cs := [(Value.slice a_g29 v_2.length c_g29)]) (i := 1) ty22 hs89 rfl rfl rfl ?_)
    refine Rg_op_ (op_store (cs := [(Value.slice a_g29 v_2.length c_g29)]) (vs := [(Value.slice a_g29 v_2.length c_g29)]) (cs' := [(Value.slice a_g29 v_2.length c_g29)]) (bs' := [(k_g29, o_g29), (some b1, Obj.cells [(Value.slice a_g29 v_2.length c_g29)].toArray 22)]) (i := 1) ty22 hs89 rfl rfl rfl rfl rfl (le_lit rfl) rfl rfl rfl ?_)
    intro w92 p93 hs94
    replace f_g29 := f_g29.step p93; clear p93 hs89
    refine Rg_op rfl (op_assign (v := (Value.int .i64 0)) rfl ?_)
    refine Rg_nil ?_
    refine Wp_ret ?_
    obtain ⟨w95, hcl96, hs97, p98⟩ := St.close hs94
    replace f_g29 := f_g29.step p98; clear p98 hs94
    obtain ⟨hs100, p101, f99⟩ := Gs.publish (i := 0) hs97 rfl f_g29
    clear p101 hs97
    have hz := (step_all hs100).trans (Step.sub (O' := O) (fun k hk => by simp [hk]))
    replace f99 := f99.step hz
    refine ⟨_, hcl96, [(Value.slice a_g29 v_2.length c_g29), (Value.int .i64 0)], ⟨res1 (cs := [(Value.slice a_g29 v_2.length c_g29)]) ty22 (i := 0) hs100 rfl rfl rfl, rfl, trivial⟩, hs100.ext, ?_⟩
    exact Vr.eq (a := (vT2 (vC (rSl (rInt .i64))) (vI .i64))) (x := (v_2, 0)) (mkT2 (mkC (mk_sl f99)) ⟨rfl, (show InK .i64 0 from by decide)⟩) (Option.some.inj hm)
   · intro _ _ _ _ h; simp at h
 ·
  intro K10 hK10
  have ch102 := Step.refl (ks [(some b1, Obj.cells [(Value.slice none 0 0)].toArray 22)] O) w2
  refine Wp_region ?_
  refine Rg_op rfl (op_move (v := (Value.slice a_a a.length c_a)) rfl ?_)
  refine Rg_op rfl (op_len Try.underlying22 rfl ?_)
  have rl103 := inK_len f_a
  refine Rg_op rfl (op_move (v := (Value.slice a_b b.length c_b)) rfl ?_)
  refine Rg_op rfl (op_len Try.underlying22 rfl ?_)
  have rl104 := inK_len f_b
  refine Rg_op rfl (op_neq rfl rfl ?_)
  refine Rg_op rfl (op_move (v := (Value.bool (decide ((a.length : Int) ≠ (b.length : Int))))) rfl ?_)
  refine Rg_case (fun hg105 => ?_) (fun hg105 => ?_)
  ·
   replace hm := bif_t hm hg105
   iterate 3 refine Rg_opx rfl (asB_ne rfl rfl) rfl ?_
   refine Rg_op rfl (op_pick_t (v := (Value.bool true)) rfl rfl ?_)
   refine Rg_op rfl (op_move (v := (Value.bool true)) rfl ?_)
   iterate 3 refine Rg_opx rfl (asB_ne rfl rfl) rfl ?_
   refine Rg_op rfl (op_pick_t (v := (Value.bool true)) rfl rfl ?_)
   refine Rg_nil ?_
   exact hK10 _ _ ⟨true, _, rfl, ⟨(by repeat (first | with_reducible exact Out.refl _ _ | refine Out.upd ?_ rfl | refine Out.updL ?_ rfl | refine Out.mix' ?_ rfl | exact Out.refl _ _)), rfl, rfl, trivial⟩, ch102, hs4, hm⟩
  ·
   replace hm := bif_f hm hg105
   refine Rg_opg rfl rfl rfl (op_move (v := (Value.slice a_a a.length c_a)) rfl ?_)
   replace hm := bd hm; obtain ⟨small_1, hv106, hm⟩ := hm
   refine Rg_opg rfl rfl rfl (op_call Try.call29 (c29_vector_small (a := a) hs4.ltw f_a hv106) rfl ?_)
   rintro v107 w108 ⟨hx109, h110⟩
   have hs111 := hs4.call hx109
   have p112 := Step.ext (O := ks [(some b1, Obj.cells [(Value.slice none 0 0)].toArray 22)] O) hx109
   clear hx109
   replace f_a := f_a.step p112; replace f_b := f_b.step p112; replace ch102 := ch102.trans p112; clear p112 hs4
   obtain rfl := h110
   refine Rg_opg rfl rfl rfl (op_not rfl ?_)
   refine Rg_op rfl (op_pick_f (v := (Value.bool (!small_1))) rfl rfl ?_)
   refine Rg_op rfl (op_move (v := (Value.bool (!small_1))) rfl ?_)
   refine Rg_case (fun hg114 => ?_) (fun hg114 => ?_)
   ·
    replace hm := bif_t hm hg114
    iterate 3 refine Rg_opx rfl (asB_ne rfl rfl) rfl ?_
    refine Rg_op rfl (op_pick_t (v := (Value.bool true)) rfl rfl ?_)
    refine Rg_nil ?_
    exact hK10 _ _ ⟨true, _, rfl, ⟨(by repeat (first | with_reducible exact Out.refl _ _ | refine Out.upd ?_ rfl | refine Out.updL ?_ rfl | refine Out.mix' ?_ rfl | exact Out.refl _ _)), rfl, rfl, trivial⟩, ch102, hs111, hm⟩
   ·
    replace hm := bif_f hm hg114
    refine Rg_opg rfl rfl rfl (op_move (v := (Value.slice a_b b.length c_b)) rfl ?_)
    replace hm := bd hm; obtain ⟨small_2, hv115, hm⟩ := hm
    refine Rg_opg rfl rfl rfl (op_call Try.call29 (c29_vector_small (a := b) hs111.ltw f_b hv115) rfl ?_)
    rintro v116 w117 ⟨hx118, h119⟩
    have hs120 := hs111.call hx118
    have p121 := Step.ext (O := ks [(some b1, Obj.cells [(Value.slice none 0 0)].toArray 22)] O) hx118
    clear hx118
    replace f_a := f_a.step p121; replace f_b := f_b.step p121; replace ch102 := ch102.trans p121; clear p121 hs111
    obtain rfl := h119
    refine Rg_opg rfl rfl rfl (op_not rfl ?_)
    refine Rg_op rfl (op_pick_f (v := (Value.bool (!small_2))) rfl rfl ?_)
    refine Rg_nil ?_
    exact hK10 _ _ ⟨(!small_2), _, rfl, ⟨(by repeat (first | with_reducible exact Out.refl _ _ | refine Out.upd ?_ rfl | refine Out.updL ?_ rfl | refine Out.mix' ?_ rfl | exact Out.refl _ _)), rfl, rfl, trivial⟩, ch102, hs120, hm⟩

end Go.Fx



set_option linter.unusedVariables false
set_option linter.unusedSimpArgs false
set_option maxRecDepth 100000
set_option maxHeartbeats 0
namespace Go.Fx
open Go Go.RowKit Go.Proofs
def m32_vector_below_B0 (k16 : Option Bool) (sf34 : Option Bool) (xi25 : Int × Int) : Option Bool :=
 bif (decide (xi25.2 < xi25.1)) then
  k16
 else
  sf34

def m32_vector_below (a : List Int) (b : List Int) : Option Bool :=
 (m30_vector_pairs a b).bind fun pairs_1 =>
 jn (  some true)
 (fun k14 =>
  jn (  some false)
  (fun k16 =>
   rng0 (m32_vector_below_B0 k16) k14 pairs_1))

theorem c32_vector_below {w : World} {O : List Nat} {a : List Int} {b : List Int} {a_a : Option Addr} {c_a : Nat} {a_b : Option Addr} {c_b : Nat} (hO : ∀ k ∈ O, k < w.heap.size) (f_a : SlR (rInt .i64) w O a_a c_a a) (f_b : SlR (rInt .i64) w O a_b c_b b) {x : Bool} (hm : m32_vector_below a b = some x) :
  Ok Try.prog 32 [(Value.slice a_a a.length c_a), (Value.slice a_b b.length c_b)] w O vB x := by
 unfold m32_vector_below at hm
 refine Fn_of_Wp (n := 15) (xs := [.cell 4 4]) Try.func32 rfl Try.ntmps32 Try.results32 rfl ?_
 have hs := St.start hO
 refine Wp_seq ?_
 refine Wp_region ?_
 refine Rg_op rfl (op_alloc ty4 hs ?_)
 intro b1 w2 _ p3 hs4
 replace f_a := f_a.step p3; replace f_b := f_b.step p3; clear p3
 refine Rg_nil ?_
 refine Wp_seq ?_
 refine Wp_seq ?_
 refine Wp_region ?_
 refine Rg_op rfl (op_move (v := (Value.slice a_a a.length c_a)) rfl ?_)
 refine Rg_op rfl (op_move (v := (Value.slice a_b b.length c_b)) rfl ?_)
 replace hm := bd hm; obtain ⟨pairs_1, hv6, hm⟩ := hm
 refine Rg_op rfl (op_call Try.call30 (c30_vector_pairs (a := a) (b := b) hs4.ltw f_a f_b hv6) rfl ?_)
 rintro v7 w8 ⟨hx9, h10⟩
 have hs11 := hs4.call hx9
 have p12 := Step.ext (O := ks [(some b1, Obj.cells [(Value.bool false)].toArray 4)] O) hx9
 clear hx9
 replace f_a := f_a.step p12; replace f_b := f_b.step p12; clear p12 hs4
 have F_y13 : ItR Try.prog (enc2 (vI .i64) (vI .i64)) _ _ v7 pairs_1 := h10
 refine Rg_nil ?_
 refine Wp_block ?_
 have hit22 := F_y13; obtain ⟨fk18, cp19, hvq20, hcl21, hit22⟩ := hit22
 replace hm := jn_elim hm; obtain ⟨k14, hk15, hm⟩ := hm
 replace hm := jn_elim hm; obtain ⟨k16, hk17, hm⟩ := hm
 refine Wp_rangeFunc (σ := Unit) (ps := [10, 11]) hs11 (rfl.trans hvq20) hcl21 hit22 rfl enc2_len enc2_step (fun s => [(some b1, Obj.cells [(Value.bool false)].toArray 4)]) (fun s w O => True) (fun s w O w' O' p h => by trivial) (fun _ l => rng0 (m32_vector_below_B0 k16) k14 l = some x) [none] (fun e s => match e, s with | none, _ => k16 = some x | _, _ => False) () rfl trivial hm ?_ ?_ ?_
 ·
  rintro l23 E24 ⟨⟩ xi25 rest26 w27 vs28 z29 hz30 hs31 hst32 - hm hx33
  replace hs31 : St z29 (E24 ++ O) w27 [(some b1, Obj.cells [(Value.bool false)].toArray 4)] := hs31
  have ch36 : Step (ks [(some b1, Obj.cells [(Value.bool false)].toArray 4)] O) w8 (ks [(some b1, Obj.cells [(Value.bool false)].toArray 4)] (E24 ++ O)) w27 := hst32; clear hst32
  have hm37 := rng0_s (show rng0 _ _ (xi25 :: rest26) = some _ from hm); clear hm; obtain ⟨sf34, hsf35, hm⟩ := hm37
  unfold m32_vector_below_B0 at hm
  replace f_a := f_a.step ch36; replace f_b := f_b.step ch36; replace F_y13 := F_y13.step ch36
  replace hx33 : (enc2 (vI .i64) (vI .i64)) xi25 w27 (ks [(some b1, Obj.cells [(Value.bool false)].toArray 4)] (E24 ++ O)) vs28 := hx33
  obtain ⟨v38, v39, rfl, h40, h41⟩ := hx33
  obtain ⟨rfl, r_y42⟩ := h40
  obtain ⟨rfl, r_y43⟩ := h41
  refine Wp_seq ?_
  refine Wp_region ?_
  refine Rg_op rfl (op_assign (v := (Value.int .i64 xi25.1)) rfl ?_)
  refine Rg_nil ?_
  refine Wp_region ?_
  refine Rg_op rfl (op_assign (v := (Value.int .i64 xi25.2)) rfl ?_)
  refine Rg_nil ?_
  refine Exists.intro _ (And.intro hs31 ?_)
  intro w44 z45 RQ46 hz47 hs48 p49 hN50 hX51
  replace f_a := f_a.step p49; replace f_b := f_b.step p49; replace F_y13 := F_y13.step p49; replace ch36 := ch36.trans p49; clear p49 hs31
  refine Wp_block ?_
  refine Wp_seq ?_
  clear f_a f_b
  refine Wp_region ?_
  refine Rg_op rfl (op_move (v := (Value.int .i64 xi25.1)) rfl ?_)
  refine Rg_op rfl (op_move (v := (Value.int .i64 xi25.2)) rfl ?_)
  refine Rg_op rfl (op_gtr rfl rfl ?_)
  refine Rg_nil ?_
  refine Wp_cond rfl (fun hc52 => ?_) (fun hc52 => ?_)
  ·
   replace hm := bif_t hm hc52
   refine Wp_seq ?_
   clear F_y13
   refine Wp_region ?_
   refine Rg_op_ (op_store (cs := [(Value.bool false)]) (vs := [(Value.bool false)]) (cs' := [(Value.bool false)]) (bs' := [(some b1, Obj.cells [(Value.bool false)].toArray 4)]) (i := 0) ty4 hs48 rfl rfl rfl rfl rfl (le_lit rfl) rfl rfl rfl ?_)
   intro w53 p54 hs55
   replace ch36 := ch36.trans p54; clear p54 hs48
   refine Rg_nil ?_
   refine Wp_ret ?_
   exact hX51 none () _ _ (by simp) hs55 ch36 trivial hm
  ·
   replace hm := bif_f hm hc52
   refine Wp_skip ?_
   exact hN50 () _ _ hs48 ch36 trivial (jnE0 hsf35 hm)
 ·
  rintro D56 ⟨⟩ w57 hs58 hst59 - hm
  replace hs58 : St ⟨w, [], (D56 :: [])⟩ (D56 :: O) w57 [(some b1, Obj.cells [(Value.bool false)].toArray 4)] := hs58
  replace hst59 : Step (ks [(some b1, Obj.cells [(Value.bool false)].toArray 4)] O) w8 (ks [(some b1, Obj.cells [(Value.bool false)].toArray 4)] (D56 :: O)) w57 := hst59
  replace hm := rng0_z (show rng0 _ _ [] = some _ from hm)
  replace hm := jnE0 hk15 (show k14 = some _ from hm)
  replace f_a := f_a.step hst59; replace f_b := f_b.step hst59; replace F_y13 := F_y13.step hst59; clear hst59 hs11
  refine Wp_seq ?_
  clear f_a f_b F_y13
  refine Wp_region ?_
  refine Rg_op_ (op_store (cs := [(Value.bool false)]) (vs := [(Value.bool true)]) (cs' := [(Value.bool true)]) (bs' := [(some b1, Obj.cells [(Value.bool true)].toArray 4)]) (i := 0) ty4 hs58 rfl rfl rfl rfl rfl (le_lit rfl) rfl rfl rfl ?_)
  intro w61 p62 hs63
  clear p62 hs58
  refine Rg_nil ?_
  refine Wp_ret ?_
  obtain ⟨w64, hcl65, hs66, p67⟩ := St.close hs63
  clear p67 hs63
  have hz := (step_all hs66).trans (Step.sub (O' := O) (fun k hk => by simp [hk]))
  refine ⟨_, hcl65, [(Value.bool true)], ⟨res1 (cs := [(Value.bool true)]) ty4 (i := 0) hs66 rfl rfl rfl, trivial⟩, hs66.ext, ?_⟩
  exact Vr.eq (a := vB) (x := true) rfl (Option.some.inj hm)
 ·
  rintro e73 D68 ⟨⟩ w69 he72 hs70 hst71 - hm
  simp only [List.mem_cons, List.not_mem_nil, or_false] at he72
  subst he72
  replace hs70 : St ⟨w, [], (D68 :: [])⟩ (D68 :: O) w69 [(some b1, Obj.cells [(Value.bool false)].toArray 4)] := hs70
  replace hst71 : Step (ks [(some b1, Obj.cells [(Value.bool false)].toArray 4)] O) w8 (ks [(some b1, Obj.cells [(Value.bool false)].toArray 4)] (D68 :: O)) w69 := hst71
  replace hm := jnE0 hk17 (show k16 = some _ from hm)
  replace f_a := f_a.step hst71; replace f_b := f_b.step hst71; replace F_y13 := F_y13.step hst71; clear hst71 hs11
  obtain ⟨w74, hcl75, hs76, p77⟩ := St.close hs70
  replace f_a := f_a.step p77; replace f_b := f_b.step p77; replace F_y13 := F_y13.step p77; clear p77 hs70
  have hz := (step_all hs76).trans (Step.sub (O' := O) (fun k hk => by simp [hk]))
  replace f_a := f_a.step hz; replace f_b := f_b.step hz; replace F_y13 := F_y13.step hz
  refine ⟨_, hcl75, [(Value.bool false)], ⟨res1 (cs := [(Value.bool false)]) ty4 (i := 0) hs76 rfl rfl rfl, trivial⟩, hs76.ext, ?_⟩
  exact Vr.eq (a := vB) (x := false) rfl (Option.some.inj hm)

end Go.Fx



set_option linter.unusedVariables false
set_option linter.unusedSimpArgs false
set_option maxRecDepth 100000
set_option maxHeartbeats 0
namespace Go.Fx
open Go Go.RowKit Go.Proofs
def m15_vector_Below (a : List Int) (b : List Int) : Option (Bool × Int) :=
 bif (decide ((a.length : Int) ≠ (b.length : Int))) then
  some (false, 60)
 else
  (m32_vector_below a b).bind fun below_1 =>
  some (below_1, 0)

theorem c15_vector_Below {w : World} {O : List Nat} {a : List Int} {b : List Int} {a_a : Option Addr} {c_a : Nat} {a_b : Option Addr} {c_b : Nat} (hO : ∀ k ∈ O, k < w.heap.size) (f_a : SlR (rInt .i64) w O a_a c_a a) (f_b : SlR (rInt .i64) w O a_b c_b b) {x : Bool × Int} (hm : m15_vector_Below a b = some x) :
  Ok Try.prog 15 [(Value.slice a_a a.length c_a), (Value.slice a_b b.length c_b)] w O (vT2 vB (vI .i64)) x := by
 unfold m15_vector_Below at hm
 refine Fn_of_Wp (n := 14) (xs := [.tmp 4, .tmp 5]) Try.func15 rfl Try.ntmps15 Try.results15 rfl ?_
 have hs := St.start hO
 refine Wp_seq ?_
 refine Wp_region ?_
 refine Rg_op rfl (op_assign (v := (Value.bool false)) rfl ?_)
 refine Rg_op rfl (op_assign (v := (Value.int .i64 0)) rfl ?_)
 refine Rg_nil ?_
 refine Wp_seq ?_
 refine Wp_seq ?_
 refine Wp_region ?_
 refine Rg_op rfl (op_move (v := (Value.slice a_a a.length c_a)) rfl ?_)
 refine Rg_op rfl (op_len Try.underlying22 rfl ?_)
 have rl1 := inK_len f_a
 refine Rg_op rfl (op_move (v := (Value.slice a_b b.length c_b)) rfl ?_)
 refine Rg_op rfl (op_len Try.underlying22 rfl ?_)
 have rl2 := inK_len f_b
 refine Rg_op rfl (op_neq rfl rfl ?_)
 refine Rg_nil ?_
 refine Wp_cond rfl (fun hc3 => ?_) (fun hc3 => ?_)
 ·
  replace hm := bif_t hm hc3
  refine Wp_seq ?_
  clear f_a f_b
  refine Wp_region ?_
  refine Rg_op rfl (op_assign (v := (Value.bool false)) rfl ?_)
  refine Rg_op rfl (op_assign (v := (Value.int .i64 60)) rfl ?_)
  refine Rg_nil ?_
  refine Wp_ret ?_
  have hz := step_all hs
  refine ⟨_, (show Closes [] _ _ from rfl), [(Value.bool false), (Value.int .i64 60)], ⟨rfl, rfl, trivial⟩, hs.ext, ?_⟩
  exact Vr.eq (a := (vT2 vB (vI .i64))) (x := (false, 60)) (mkT2 rfl ⟨rfl, (show InK .i64 60 from by decide)⟩) (Option.some.inj hm)
 ·
  replace hm := bif_f hm hc3
  refine Wp_skip ?_
  refine Wp_seq ?_
  refine Wp_region ?_
  refine Rg_op rfl (op_move (v := (Value.slice a_a a.length c_a)) rfl ?_)
  refine Rg_op rfl (op_move (v := (Value.slice a_b b.length c_b)) rfl ?_)
  replace hm := bd hm; obtain ⟨below_1, hv4, hm⟩ := hm
  refine Rg_op rfl (op_call Try.call32 (c32_vector_below (a := a) (b := b) hs.ltw f_a f_b hv4) rfl ?_)
  rintro v5 w6 ⟨hx7, h8⟩
  have hs9 := hs.call hx7
  have p10 := Step.ext (O := ks [] O) hx7
  clear hx7
  replace f_a := f_a.step p10; replace f_b := f_b.step p10; clear p10
  obtain rfl := h8
  refine Rg_op rfl (op_assign (v := (Value.bool below_1)) rfl ?_)
  refine Rg_op rfl (op_assign (v := (Value.int .i64 0)) rfl ?_)
  refine Rg_nil ?_
  refine Wp_ret ?_
  have hz := step_all hs9
  replace f_a := f_a.step hz; replace f_b := f_b.step hz
  refine ⟨_, (show Closes [] _ _ from rfl), [(Value.bool below_1), (Value.int .i64 0)], ⟨rfl, rfl, trivial⟩, hs9.ext, ?_⟩
  exact Vr.eq (a := (vT2 vB (vI .i64))) (x := (below_1, 0)) (mkT2 rfl ⟨rfl, (show InK .i64 0 from by decide)⟩) (Option.some.inj hm)

end Go.Fx



set_option linter.unusedVariables false
set_option linter.unusedSimpArgs false
set_option maxRecDepth 100000
set_option maxHeartbeats 0
namespace Go.Fx
open Go Go.RowKit Go.Proofs
def m58_cmp_isNaN (x_ : Int) : Option Bool :=
 some (decide (x_ ≠ x_))

theorem c58_cmp_isNaN {w : World} {O : List Nat} {x_ : Int} (hO : ∀ k ∈ O, k < w.heap.size) (r_x_ : InK .i64 x_) {x : Bool} (hm : m58_cmp_isNaN x_ = some x) :
  Ok Try.prog 58 [(Value.int .i64 x_)] w O vB x := by
 unfold m58_cmp_isNaN at hm
 refine Fn_of_Wp (n := 6) (xs := [.tmp 2]) Try.func58 rfl Try.ntmps58 Try.results58 rfl ?_
 have hs := St.start hO
 refine Wp_seq ?_
 refine Wp_region ?_
 refine Rg_op rfl (op_assign (v := (Value.bool false)) rfl ?_)
 refine Rg_nil ?_
 refine Wp_seq ?_
 refine Wp_region ?_
 refine Rg_op rfl (op_move (v := (Value.int .i64 x_)) rfl ?_)
 refine Rg_op rfl (op_move (v := (Value.int .i64 x_)) rfl ?_)
 refine Rg_op rfl (op_neq rfl rfl ?_)
 refine Rg_op rfl (op_assign (v := (Value.bool (decide (x_ ≠ x_)))) rfl ?_)
 refine Rg_nil ?_
 refine Wp_ret ?_
 have hz := step_all hs
 refine ⟨_, (show Closes [] _ _ from rfl), [(Value.bool (decide (x_ ≠ x_)))], ⟨rfl, trivial⟩, hs.ext, ?_⟩
 exact Vr.eq (a := vB) (x := (decide (x_ ≠ x_))) rfl (Option.some.inj hm)

end Go.Fx



set_option linter.unusedVariables false
set_option linter.unusedSimpArgs false
set_option maxRecDepth 100000
set_option maxHeartbeats 0
namespace Go.Fx
open Go Go.RowKit Go.Proofs
def m48_cmp_Compare (x_ : Int) (y : Int) : Option Int :=
 (m58_cmp_isNaN x_).bind fun isnan_1 =>
 (m58_cmp_isNaN y).bind fun isnan_2 =>
 bif isnan_1 then
  bif isnan_2 then
   some 0
  else
   some (-1)
 else
  bif isnan_2 then
   some 1
  else
   bif (decide (x_ < y)) then
    some (-1)
   else
    bif (decide (y < x_)) then
     some 1
    else
     some 0

theorem c48_cmp_Compare {w : World} {O : List Nat} {x_ : Int} {y : Int} (hO : ∀ k ∈ O, k < w.heap.size) (r_x_ : InK .i64 x_) (r_y : InK .i64 y) {x : Int} (hm : m48_cmp_Compare x_ y = some x) :
  Ok Try.prog 48 [(Value.int .i64 x_), (Value.int .i64 y)] w O (vI .i64) x := by
 unfold m48_cmp_Compare at hm
 refine Fn_of_Wp (n := 20) (xs := [.tmp 4]) Try.func48 rfl Try.ntmps48 Try.results48 rfl ?_
 have hs := St.start hO
 refine Wp_seq ?_
 refine Wp_region ?_
 refine Rg_op rfl (op_assign (v := (Value.int .i64 0)) rfl ?_)
 refine Rg_nil ?_
 refine Wp_seq ?_
 refine Wp_region ?_
 refine Rg_op rfl (op_move (v := (Value.int .i64 x_)) rfl ?_)
 replace hm := bd hm; obtain ⟨isnan_1, hv1, hm⟩ := hm
 refine Rg_op rfl (op_call Try.call58 (c58_cmp_isNaN (x_ := x_) hs.ltw r_x_ hv1) rfl ?_)
 rintro v2 w3 ⟨hx4, h5⟩
 have hs6 := hs.call hx4
 have p7 := Step.ext (O := ks [] O) hx4
 clear hx4
 clear p7
 obtain rfl := h5
 refine Rg_op rfl (op_assign (v := (Value.bool isnan_1)) rfl ?_)
 refine Rg_nil ?_
 refine Wp_seq ?_
 refine Wp_region ?_
 refine Rg_op rfl (op_move (v := (Value.int .i64 y)) rfl ?_)
 replace hm := bd hm; obtain ⟨isnan_2, hv9, hm⟩ := hm
 refine Rg_op rfl (op_call Try.call58 (c58_cmp_isNaN (x_ := y) hs6.ltw r_y hv9) rfl ?_)
 rintro v10 w11 ⟨hx12, h13⟩
 have hs14 := hs6.call hx12
 have p15 := Step.ext (O := ks [] O) hx12
 clear hx12
 clear p15 hs6
 obtain rfl := h13
 refine Rg_op rfl (op_assign (v := (Value.bool isnan_2)) rfl ?_)
 refine Rg_nil ?_
 refine Wp_seq ?_
 refine Wp_seq ?_
 refine Wp_region ?_
 refine Rg_op rfl (op_move (v := (Value.bool isnan_1)) rfl ?_)
 refine Rg_nil ?_
 refine Wp_cond rfl (fun hc17 => ?_) (fun hc17 => ?_)
 ·
  replace hm := bif_t hm hc17
  refine Wp_seq ?_
  refine Wp_seq ?_
  refine Wp_region ?_
  refine Rg_op rfl (op_move (v := (Value.bool isnan_2)) rfl ?_)
  refine Rg_nil ?_
  refine Wp_cond rfl (fun hc18 => ?_) (fun hc18 => ?_)
  ·
   replace hm := bif_t hm hc18
   refine Wp_seq ?_
   refine Wp_region ?_
   refine Rg_op rfl (op_assign (v := (Value.int .i64 0)) rfl ?_)
   refine Rg_nil ?_
   refine Wp_ret ?_
   have hz := step_all hs14
   refine ⟨_, (show Closes [] _ _ from rfl), [(Value.int .i64 0)], ⟨rfl, trivial⟩, hs14.ext, ?_⟩
   exact Vr.eq (a := (vI .i64)) (x := 0) ⟨rfl, (show InK .i64 0 from by decide)⟩ (Option.some.inj hm)
  ·
   replace hm := bif_f hm hc18
   refine Wp_skip ?_
   refine Wp_seq ?_
   refine Wp_region ?_
   refine Rg_op rfl (op_assign (v := (Value.int .i64 (-1))) rfl ?_)
   refine Rg_nil ?_
   refine Wp_ret ?_
   have hz := step_all hs14
   refine ⟨_, (show Closes [] _ _ from rfl), [(Value.int .i64 (-1))], ⟨rfl, trivial⟩, hs14.ext, ?_⟩
   exact Vr.eq (a := (vI .i64)) (x := (-1)) ⟨rfl, (show InK .i64 (-1) from by decide)⟩ (Option.some.inj hm)
 ·
  replace hm := bif_f hm hc17
  refine Wp_skip ?_
  refine Wp_seq ?_
  refine Wp_seq ?_
  refine Wp_region ?_
  refine Rg_op rfl (op_move (v := (Value.bool isnan_2)) rfl ?_)
  refine Rg_nil ?_
  refine Wp_cond rfl (fun hc19 => ?_) (fun hc19 => ?_)
  ·
   replace hm := bif_t hm hc19
   refine Wp_seq ?_
   refine Wp_region ?_
   refine Rg_op rfl (op_assign (v := (Value.int .i64 1)) rfl ?_)
   refine Rg_nil ?_
   refine Wp_ret ?_
   have hz := step_all hs14
   refine ⟨_, (show Closes [] _ _ from rfl), [(Value.int .i64 1)], ⟨rfl, trivial⟩, hs14.ext, ?_⟩
   exact Vr.eq (a := (vI .i64)) (x := 1) ⟨rfl, (show InK .i64 1 from by decide)⟩ (Option.some.inj hm)
  ·
   replace hm := bif_f hm hc19
   refine Wp_skip ?_
   refine Wp_seq ?_
   refine Wp_seq ?_
   refine Wp_region ?_
   refine Rg_op rfl (op_move (v := (Value.int .i64 x_)) rfl ?_)
   refine Rg_op rfl (op_move (v := (Value.int .i64 y)) rfl ?_)
   refine Rg_op rfl (op_lss rfl rfl ?_)
   refine Rg_nil ?_
   refine Wp_cond rfl (fun hc20 => ?_) (fun hc20 => ?_)
   ·
    replace hm := bif_t hm hc20
    refine Wp_seq ?_
    refine Wp_region ?_
    refine Rg_op rfl (op_assign (v := (Value.int .i64 (-1))) rfl ?_)
    refine Rg_nil ?_
    refine Wp_ret ?_
    have hz := step_all hs14
    refine ⟨_, (show Closes [] _ _ from rfl), [(Value.int .i64 (-1))], ⟨rfl, trivial⟩, hs14.ext, ?_⟩
    exact Vr.eq (a := (vI .i64)) (x := (-1)) ⟨rfl, (show InK .i64 (-1) from by decide)⟩ (Option.some.inj hm)
   ·
    replace hm := bif_f hm hc20
    refine Wp_skip ?_
    refine Wp_seq ?_
    refine Wp_seq ?_
    refine Wp_region ?_
    refine Rg_op rfl (op_move (v := (Value.int .i64 x_)) rfl ?_)
    refine Rg_op rfl (op_move (v := (Value.int .i64 y)) rfl ?_)
    refine Rg_op rfl (op_gtr rfl rfl ?_)
    refine Rg_nil ?_
    refine Wp_cond rfl (fun hc21 => ?_) (fun hc21 => ?_)
    ·
     replace hm := bif_t hm hc21
     refine Wp_seq ?_
     refine Wp_region ?_
     refine Rg_op rfl (op_assign (v := (Value.int .i64 1)) rfl ?_)
     refine Rg_nil ?_
     refine Wp_ret ?_
     have hz := step_all hs14
     refine ⟨_, (show Closes [] _ _ from rfl), [(Value.int .i64 1)], ⟨rfl, trivial⟩, hs14.ext, ?_⟩
     exact Vr.eq (a := (vI .i64)) (x := 1) ⟨rfl, (show InK .i64 1 from by decide)⟩ (Option.some.inj hm)
    ·
     replace hm := bif_f hm hc21
     refine Wp_skip ?_
     refine Wp_seq ?_
     refine Wp_region ?_
     refine Rg_op rfl (op_assign (v := (Value.int .i64 0)) rfl ?_)
     refine Rg_nil ?_
     refine Wp_ret ?_
     have hz := step_all hs14
     refine ⟨_, (show Closes [] _ _ from rfl), [(Value.int .i64 0)], ⟨rfl, trivial⟩, hs14.ext, ?_⟩
     exact Vr.eq (a := (vI .i64)) (x := 0) ⟨rfl, (show InK .i64 0 from by decide)⟩ (Option.some.inj hm)

end Go.Fx



set_option linter.unusedVariables false
set_option linter.unusedSimpArgs false
set_option maxRecDepth 100000
set_option maxHeartbeats 0
namespace Go.Fx
open Go Go.RowKit Go.Proofs
def m34_slices_Compareint_int__B0 (s1_ : List Int) (s2_ : List Int) (sf4 : Int → Option Int) (v_1 : Int) : Option Int :=
 bif (decide (v_1 < (s1_.length : Int))) then
  ck ((0 : Int) ≤ v_1 ∧ v_1 < (s1_.length : Int)) <|
  bif (decide ((s2_.length : Int) ≤ v_1)) then
   some 1
  else
   ck ((0 : Int) ≤ v_1 ∧ v_1 < (s2_.length : Int)) <|
   (m48_cmp_Compare (s1_.getD v_1.toNat default) (s2_.getD v_1.toNat default)).bind fun compare_1 =>
   bif (decide (compare_1 ≠ 0)) then
    some compare_1
   else
    sf4 (IntKind.wrap .i64 (v_1 + 1))
 else
  bif (decide ((s1_.length : Int) < (s2_.length : Int))) then
   some (-1)
  else
   some 0

def m34_slices_Compareint_int_ (s1_ : List Int) (s2_ : List Int) : Option Int :=
 loop1 (m34_slices_Compareint_int__B0 s1_ s2_) (((s1_.length : Int) - 0).toNat + 1) 0

theorem c34_slices_Compareint_int_ {w : World} {O : List Nat} {s1_ : List Int} {s2_ : List Int} {a_s1_ : Option Addr} {c_s1_ : Nat} {a_s2_ : Option Addr} {c_s2_ : Nat} (hO : ∀ k ∈ O, k < w.heap.size) (f_s1_ : SlR (rInt .i64) w O a_s1_ c_s1_ s1_) (f_s2_ : SlR (rInt .i64) w O a_s2_ c_s2_ s2_) {x : Int} (hm : m34_slices_Compareint_int_ s1_ s2_ = some x) :
  Ok Try.prog 34 [(Value.slice a_s1_ s1_.length c_s1_), (Value.slice a_s2_ s2_.length c_s2_)] w O (vI .i64) x := by
 unfold m34_slices_Compareint_int_ at hm
 refine Fn_of_Wp (n := 36) (xs := [.tmp 4]) Try.func34 rfl Try.ntmps34 Try.results34 rfl ?_
 have hs := St.start hO
 refine Wp_seq ?_
 refine Wp_region ?_
 refine Rg_op rfl (op_assign (v := (Value.int .i64 0)) rfl ?_)
 refine Rg_nil ?_
 refine Wp_seq ?_
 refine Wp_seq ?_
 refine Wp_region ?_
 refine Rg_op rfl (op_move (v := (Value.slice a_s1_ s1_.length c_s1_)) rfl ?_)
 refine Rg_op rfl (op_len Try.underlying22 rfl ?_)
 have rl1 := inK_len f_s1_
 refine Rg_op rfl (op_move (v := (Value.int .i64 0)) rfl ?_)
 refine Rg_nil ?_
 refine Wp_block ?_
 refine Wp_reset [] [(0, (Value.slice a_s1_ s1_.length c_s1_)), (1, (Value.slice a_s2_ s2_.length c_s2_)), (9, (Value.slice a_s1_ s1_.length c_s1_)), (10, (Value.int .i64 (s1_.length : Int))), (11, (Value.int .i64 0))] rfl ⟨rfl, rfl, rfl, rfl, rfl, trivial⟩ fun ξ3 => ?_
 refine Wp_loopM [4, 5, 6, 7, 8, 11, 12, 13, 14, 15, 16, 17, 18, 19, 20, 21, 22, 23, 24, 25, 26, 27, 28, 29, 30] (fun m fr w' => ∃ (v_1 : Int) (Ebs : Ents), Ebs = [] ∧ fr [] [(11, (Value.int .i64 v_1))] ∧ Step (ks [] O) w (ks Ebs O) w' ∧ St ⟨w, [], []⟩ O w' Ebs ∧ InK .i64 v_1 ∧ loop1 (m34_slices_Compareint_int__B0 s1_ s2_) m v_1 = some x) (((s1_.length : Int) - 0).toNat + 1) ⟨0, _, rfl, ⟨Out.refl _ _, rfl, rfl, trivial⟩, Step.refl _ _, hs, (show InK .i64 0 from by decide), hm⟩ ?_ ?_
 · rintro _ _ ⟨_, _, _, _, _, _, _, hm⟩; exact loop1_z hm
 ·
  rintro m7 K6 hK6 ρ12 w8 ⟨v_1, Ebs, hEbs, hfr11, hst10, hs9, r_y2, hm⟩
  obtain ⟨sf4, hsf5, hm⟩ := loop1_s hm; unfold m34_slices_Compareint_int__B0 at hm
  subst hEbs; rw [hfr11.eq]; clear hfr11
  replace f_s1_ := f_s1_.step hst10; replace f_s2_ := f_s2_.step hst10
  have ch13 := hst10
  refine Wp_seq ?_
  refine Wp_region ?_
  refine Rg_op rfl (op_lss rfl rfl ?_)
  refine Rg_nil ?_
  refine Wp_seq ?_
  refine Wp_cond rfl (fun hc14 => ?_) (fun hc14 => ?_)
  ·
   replace hm := bif_t hm hc14
   refine Wp_skip ?_
   refine Wp_seq ?_
   refine Wp_block ?_
   refine Wp_seq ?_
   refine Wp_region ?_
   refine Rg_op rfl (op_move (v := (Value.int .i64 v_1)) rfl ?_)
   replace hm := ck_some hm; obtain ⟨hc15, hm⟩ := hm
   refine Rg_op rfl (op_indexAddr (q := (rInt .i64)) ty22 ty3 rfl rfl f_s1_ rfl hc15.1 hc15.2 ?_)
   intro p16 f17
   refine Rg_op rfl (op_loadP ty3 rfl f17 rfl ?_)
   intro v18 h19
   obtain ⟨rfl, r_y20⟩ := un_int h19
   refine Rg_op rfl (op_assign (v := (Value.int .i64 v_1)) rfl ?_)
   refine Rg_op rfl (op_assign (v := (Value.int .i64 (s1_.getD v_1.toNat default))) rfl ?_)
   refine Rg_nil ?_
   refine Wp_seq ?_
   refine Wp_seq ?_
   clear f17
   refine Wp_region ?_
   refine Rg_op rfl (op_move (v := (Value.int .i64 v_1)) rfl ?_)
   refine Rg_op rfl (op_move (v := (Value.slice a_s2_ s2_.length c_s2_)) rfl ?_)
   refine Rg_op rfl (op_len Try.underlying22 rfl ?_)
   have rl21 := inK_len f_s2_
   refine Rg_op rfl (op_geq rfl rfl ?_)
   refine Rg_nil ?_
   refine Wp_cond rfl (fun hc22 => ?_) (fun hc22 => ?_)
   ·
    replace hm := bif_t hm hc22
    refine Wp_seq ?_
    clear f_s1_ f_s2_
    refine Wp_region ?_
    refine Rg_op rfl (op_assign (v := (Value.int .i64 1)) rfl ?_)
    refine Rg_nil ?_
    refine Wp_ret ?_
    have hz := step_all hs9
    refine ⟨_, (show Closes [] _ _ from rfl), [(Value.int .i64 1)], ⟨rfl, trivial⟩, hs9.ext, ?_⟩
    exact Vr.eq (a := (vI .i64)) (x := 1) ⟨rfl, (show InK .i64 1 from by decide)⟩ (Option.some.inj hm)
   ·
    replace hm := bif_f hm hc22
    refine Wp_skip ?_
    refine Wp_seq ?_
    refine Wp_region ?_
    refine Rg_op rfl (op_move (v := (Value.slice a_s2_ s2_.length c_s2_)) rfl ?_)
    refine Rg_op rfl (op_move (v := (Value.int .i64 v_1)) rfl ?_)
    replace hm := ck_some hm; obtain ⟨hc23, hm⟩ := hm
    refine Rg_op rfl (op_indexAddr (q := (rInt .i64)) ty22 ty3 rfl rfl f_s2_ rfl hc23.1 hc23.2 ?_)
    intro p24 f25
    refine Rg_op rfl (op_loadP ty3 rfl f25 rfl ?_)
    intro v26 h27
    obtain ⟨rfl, r_y28⟩ := un_int h27
    refine Rg_op rfl (op_assign (v := (Value.int .i64 (s2_.getD v_1.toNat default))) rfl ?_)
    refine Rg_nil ?_
    refine Wp_seq ?_
    clear f25
    refine Wp_region ?_
    refine Rg_op rfl (op_move (v := (Value.int .i64 (s1_.getD v_1.toNat default))) rfl ?_)
    refine Rg_op rfl (op_move (v := (Value.int .i64 (s2_.getD v_1.toNat default))) rfl ?_)
    replace hm := bd hm; obtain ⟨compare_1, hv29, hm⟩ := hm
    refine Rg_op rfl (op_call Try.call48 (c48_cmp_Compare (x_ := (s1_.getD v_1.toNat default)) (y := (s2_.getD v_1.toNat default)) hs9.ltw r_y20 r_y28 hv29) rfl ?_)
    rintro v30 w31 ⟨hx32, h33⟩
    have hs34 := hs9.call hx32
    have p35 := Step.ext (O := ks [] O) hx32
    clear hx32
    replace f_s1_ := f_s1_.step p35; replace f_s2_ := f_s2_.step p35; replace ch13 := ch13.trans p35; clear p35 hs9
    obtain ⟨rfl, r_y36⟩ := h33
    refine Rg_op rfl (op_assign (v := (Value.int .i64 compare_1)) rfl ?_)
    refine Rg_nil ?_
    refine Wp_seq ?_
    refine Wp_region ?_
    refine Rg_op rfl (op_move (v := (Value.int .i64 compare_1)) rfl ?_)
    refine Rg_op rfl (op_neq rfl rfl ?_)
    refine Rg_nil ?_
    refine Wp_cond rfl (fun hc37 => ?_) (fun hc37 => ?_)
    ·
     replace hm := bif_t hm hc37
     refine Wp_seq ?_
     clear f_s1_ f_s2_
     refine Wp_region ?_
     refine Rg_op rfl (op_move (v := (Value.int .i64 compare_1)) rfl ?_)
     refine Rg_op rfl (op_assign (v := (Value.int .i64 compare_1)) rfl ?_)
     refine Rg_nil ?_
     refine Wp_ret ?_
     have hz := step_all hs34
     refine ⟨_, (show Closes [] _ _ from rfl), [(Value.int .i64 compare_1)], ⟨rfl, trivial⟩, hs34.ext, ?_⟩
     exact Vr.eq (a := (vI .i64)) (x := compare_1) ⟨rfl, r_y36⟩ (Option.some.inj hm)
    ·
     replace hm := bif_f hm hc37
     refine Wp_skip ?_
     refine Wp_region ?_
     refine Rg_op rfl (op_addw rfl rfl ?_)
     refine Rg_op rfl (op_move (v := (Value.int .i64 (IntKind.wrap .i64 (v_1 + 1)))) rfl ?_)
     refine Rg_nil ?_
     exact hK6 _ _ ⟨(IntKind.wrap .i64 (v_1 + 1)), _, rfl, ⟨(by repeat (first | with_reducible exact Out.refl _ _ | refine Out.upd ?_ rfl | refine Out.updL ?_ rfl | refine Out.mix' ?_ rfl | exact Out.refl _ _)), rfl, rfl, trivial⟩, ch13, hs34, (inK_wrap .i64 _), jnE1 hsf5 hm⟩
  ·
   replace hm := bif_f hm hc14
   refine Wp_exit ?_
   refine Wp_seq ?_
   refine Wp_seq ?_
   refine Wp_region ?_
   refine Rg_op rfl (op_move (v := (Value.slice a_s1_ s1_.length c_s1_)) rfl ?_)
   refine Rg_op rfl (op_len Try.underlying22 rfl ?_)
   have rl38 := inK_len f_s1_
   refine Rg_op rfl (op_move (v := (Value.slice a_s2_ s2_.length c_s2_)) rfl ?_)
   refine Rg_op rfl (op_len Try.underlying22 rfl ?_)
   have rl39 := inK_len f_s2_
   refine Rg_op rfl (op_lss rfl rfl ?_)
   refine Rg_nil ?_
   refine Wp_cond rfl (fun hc40 => ?_) (fun hc40 => ?_)
   ·
    replace hm := bif_t hm hc40
    refine Wp_seq ?_
    clear f_s1_ f_s2_
    refine Wp_region ?_
    refine Rg_op rfl (op_assign (v := (Value.int .i64 (-1))) rfl ?_)
    refine Rg_nil ?_
    refine Wp_ret ?_
    have hz := step_all hs9
    refine ⟨_, (show Closes [] _ _ from rfl), [(Value.int .i64 (-1))], ⟨rfl, trivial⟩, hs9.ext, ?_⟩
    exact Vr.eq (a := (vI .i64)) (x := (-1)) ⟨rfl, (show InK .i64 (-1) from by decide)⟩ (Option.some.inj hm)
   ·
    replace hm := bif_f hm hc40
    refine Wp_skip ?_
    refine Wp_seq ?_
    clear f_s1_ f_s2_
    refine Wp_region ?_
    refine Rg_op rfl (op_assign (v := (Value.int .i64 0)) rfl ?_)
    refine Rg_nil ?_
    refine Wp_ret ?_
    have hz := step_all hs9
    refine ⟨_, (show Closes [] _ _ from rfl), [(Value.int .i64 0)], ⟨rfl, trivial⟩, hs9.ext, ?_⟩
    exact Vr.eq (a := (vI .i64)) (x := 0) ⟨rfl, (show InK .i64 0 from by decide)⟩ (Option.some.inj hm)

end Go.Fx



set_option linter.unusedVariables false
set_option linter.unusedSimpArgs false
set_option maxRecDepth 100000
set_option maxHeartbeats 0
namespace Go.Fx
open Go Go.RowKit Go.Proofs
def m17_vector_Compare (a : List Int) (b : List Int) : Option (Int × Int) :=
 bif (decide ((a.length : Int) ≠ (b.length : Int))) then
  some (0, 60)
 else
  (m34_slices_Compareint_int_ a b).bind fun compare_1 =>
  some (compare_1, 0)

theorem c17_vector_Compare {w : World} {O : List Nat} {a : List Int} {b : List Int} {a_a : Option Addr} {c_a : Nat} {a_b : Option Addr} {c_b : Nat} (hO : ∀ k ∈ O, k < w.heap.size) (f_a : SlR (rInt .i64) w O a_a c_a a) (f_b : SlR (rInt .i64) w O a_b c_b b) {x : Int × Int} (hm : m17_vector_Compare a b = some x) :
  Ok Try.prog 17 [(Value.slice a_a a.length c_a), (Value.slice a_b b.length c_b)] w O (vT2 (vI .i64) (vI .i64)) x := by
 unfold m17_vector_Compare at hm
 refine Fn_of_Wp (n := 14) (xs := [.tmp 4, .tmp 5]) Try.func17 rfl Try.ntmps17 Try.results17 rfl ?_
 have hs := St.start hO
 refine Wp_seq ?_
 refine Wp_region ?_
 refine Rg_op rfl (op_assign (v := (Value.int .i64 0)) rfl ?_)
 refine Rg_op rfl (op_assign (v := (Value.int .i64 0)) rfl ?_)
 refine Rg_nil ?_
 refine Wp_seq ?_
 refine Wp_seq ?_
 refine Wp_region ?_
 refine Rg_op rfl (op_move (v := (Value.slice a_a a.length c_a)) rfl ?_)
 refine Rg_op rfl (op_len Try.underlying22 rfl ?_)
 have rl1 := inK_len f_a
 refine Rg_op rfl (op_move (v := (Value.slice a_b b.length c_b)) rfl ?_)
 refine Rg_op rfl (op_len Try.underlying22 rfl ?_)
 have rl2 := inK_len f_b
 refine Rg_op rfl (op_neq rfl rfl ?_)
 refine Rg_nil ?_
 refine Wp_cond rfl (fun hc3 => ?_) (fun hc3 => ?_)
 ·
  replace hm := bif_t hm hc3
  refine Wp_seq ?_
  clear f_a f_b
  refine Wp_region ?_
  refine Rg_op rfl (op_assign (v := (Value.int .i64 0)) rfl ?_)
  refine Rg_op rfl (op_assign (v := (Value.int .i64 60)) rfl ?_)
  refine Rg_nil ?_
  refine Wp_ret ?_
  have hz := step_all hs
  refine ⟨_, (show Closes [] _ _ from rfl), [(Value.int .i64 0), (Value.int .i64 60)], ⟨rfl, rfl, trivial⟩, hs.ext, ?_⟩
  exact Vr.eq (a := (vT2 (vI .i64) (vI .i64))) (x := (0, 60)) (mkT2 ⟨rfl, (show InK .i64 0 from by decide)⟩ ⟨rfl, (show InK .i64 60 from by decide)⟩) (Option.some.inj hm)
 ·
  replace hm := bif_f hm hc3
  refine Wp_skip ?_
  refine Wp_seq ?_
  refine Wp_region ?_
  refine Rg_op rfl (op_move (v := (Value.slice a_a a.length c_a)) rfl ?_)
  refine Rg_op rfl (op_move (v := (Value.slice a_b b.length c_b)) rfl ?_)
  replace hm := bd hm; obtain ⟨compare_1, hv4, hm⟩ := hm
  refine Rg_op rfl (op_call Try.call34 (c34_slices_Compareint_int_ (s1_ := a) (s2_ := b) hs.ltw f_a f_b hv4) rfl ?_)
  rintro v5 w6 ⟨hx7, h8⟩
  have hs9 := hs.call hx7
  have p10 := Step.ext (O := ks [] O) hx7
  clear hx7
  replace f_a := f_a.step p10; replace f_b := f_b.step p10; clear p10
  obtain ⟨rfl, r_y11⟩ := h8
  refine Rg_op rfl (op_assign (v := (Value.int .i64 compare_1)) rfl ?_)
  refine Rg_op rfl (op_assign (v := (Value.int .i64 0)) rfl ?_)
  refine Rg_nil ?_
  refine Wp_ret ?_
  have hz := step_all hs9
  replace f_a := f_a.step hz; replace f_b := f_b.step hz
  refine ⟨_, (show Closes [] _ _ from rfl), [(Value.int .i64 compare_1), (Value.int .i64 0)], ⟨rfl, rfl, trivial⟩, hs9.ext, ?_⟩
  exact Vr.eq (a := (vT2 (vI .i64) (vI .i64))) (x := (compare_1, 0)) (mkT2 ⟨rfl, r_y11⟩ ⟨rfl, (show InK .i64 0 from by decide)⟩) (Option.some.inj hm)

end Go.Fx



set_option linter.unusedVariables false
set_option linter.unusedSimpArgs false
set_option maxRecDepth 100000
set_option maxHeartbeats 0
namespace Go.Fx
open Go Go.RowKit Go.Proofs
def m35_overflightref06_Order_B0 (a : List Int) (b : List Int) (sf3 : Int → Option Int) (i_1 : Int) : Option Int :=
 bif (decide (i_1 < (a.length : Int))) then
  ck ((0 : Int) ≤ i_1 ∧ i_1 < (a.length : Int)) <|
  ck ((0 : Int) ≤ i_1 ∧ i_1 < (b.length : Int)) <|
  bif (decide ((a.getD i_1.toNat default) < (b.getD i_1.toNat default))) then
   some (-1)
  else
   ck ((0 : Int) ≤ i_1 ∧ i_1 < (a.length : Int)) <|
   ck ((0 : Int) ≤ i_1 ∧ i_1 < (b.length : Int)) <|
   bif (decide ((b.getD i_1.toNat default) < (a.getD i_1.toNat default))) then
    some 1
   else
    sf3 (IntKind.wrap .i64 (i_1 + 1))
 else
  some 0

def m35_overflightref06_Order (a : List Int) (b : List Int) : Option Int :=
 loop1 (m35_overflightref06_Order_B0 a b) (((a.length : Int) - 0).toNat + 1) 0

theorem c35_overflightref06_Order {w : World} {O : List Nat} {a : List Int} {b : List Int} {a_a : Option Addr} {c_a : Nat} {a_b : Option Addr} {c_b : Nat} (hO : ∀ k ∈ O, k < w.heap.size) (f_a : SlR (rInt .i64) w O a_a c_a a) (f_b : SlR (rInt .i64) w O a_b c_b b) {x : Int} (hm : m35_overflightref06_Order a b = some x) :
  Ok Try.prog 35 [(Value.slice a_a a.length c_a), (Value.slice a_b b.length c_b)] w O (vI .i64) x := by
 unfold m35_overflightref06_Order at hm
 refine Fn_of_Wp (n := 30) (xs := [.tmp 4]) Try.func35 rfl Try.ntmps35 Try.results35 rfl ?_
 have hs := St.start hO
 refine Wp_seq ?_
 refine Wp_region ?_
 refine Rg_op rfl (op_assign (v := (Value.int .i64 0)) rfl ?_)
 refine Rg_nil ?_
 refine Wp_seq ?_
 refine Wp_seq ?_
 refine Wp_region ?_
 refine Rg_op rfl (op_assign (v := (Value.int .i64 0)) rfl ?_)
 refine Rg_nil ?_
 refine Wp_block ?_
 refine Wp_reset [] [(0, (Value.slice a_a a.length c_a)), (1, (Value.slice a_b b.length c_b)), (5, (Value.int .i64 0))] rfl ⟨rfl, rfl, rfl, trivial⟩ fun ξ2 => ?_
 refine Wp_loopM [4, 5, 6, 7, 8, 9, 10, 11, 12, 13, 14, 15, 16, 17, 18, 19, 20, 21, 22, 23, 24, 25, 26, 27, 28, 29] (fun m fr w' => ∃ (i_1 : Int) (Ebs : Ents), Ebs = [] ∧ fr [] [(5, (Value.int .i64 i_1))] ∧ Step (ks [] O) w (ks Ebs O) w' ∧ St ⟨w, [], []⟩ O w' Ebs ∧ InK .i64 i_1 ∧ loop1 (m35_overflightref06_Order_B0 a b) m i_1 = some x) (((a.length : Int) - 0).toNat + 1) ⟨0, _, rfl, ⟨Out.refl _ _, rfl, rfl, trivial⟩, Step.refl _ _, hs, (show InK .i64 0 from by decide), hm⟩ ?_ ?_
 · rintro _ _ ⟨_, _, _, _, _, _, _, hm⟩; exact loop1_z hm
 ·
  rintro m6 K5 hK5 ρ11 w7 ⟨i_1, Ebs, hEbs, hfr10, hst9, hs8, r_y1, hm⟩
  obtain ⟨sf3, hsf4, hm⟩ := loop1_s hm; unfold m35_overflightref06_Order_B0 at hm
  subst hEbs; rw [hfr10.eq]; clear hfr10
  replace f_a := f_a.step hst9; replace f_b := f_b.step hst9
  have ch12 := hst9
  refine Wp_seq ?_
  refine Wp_seq ?_
  refine Wp_region ?_
  refine Rg_op rfl (op_move (v := (Value.int .i64 i_1)) rfl ?_)
  refine Rg_op rfl (op_move (v := (Value.slice a_a a.length c_a)) rfl ?_)
  refine Rg_op rfl (op_len Try.underlying22 rfl ?_)
  have rl13 := inK_len f_a
  refine Rg_op rfl (op_lss rfl rfl ?_)
  refine Rg_nil ?_
  refine Wp_cond rfl (fun hc14 => ?_) (fun hc14 => ?_)
  ·
   replace hm := bif_t hm hc14
   refine Wp_skip ?_
   refine Wp_seq ?_
   refine Wp_block ?_
   refine Wp_seq ?_
   refine Wp_seq ?_
   refine Wp_drawR (g0 := []) (m := 8) (fl := []) (TS_inv hs8) rfl (.inl rfl) rfl (by decide +kernel) ?_  -- 4
   refine Dw_eq (Value.slice a_a a.length c_a) (fun ρ15 w16 g hle hi ht => ?_) ?_
   ·
    obtain ⟨-, hst, -⟩ := hle
    refine StepOp_plain (op_move (v := (Value.slice a_a a.length c_a)) (ht 0 rfl) ?_)
    exact Goes.same hi rfl
   refine Dw_eq (Value.int .i64 i_1) (fun ρ18 w19 g hle hi ht => ?_) ?_
   ·
    obtain ⟨-, hst, -⟩ := hle
    refine StepOp_plain (op_move (v := (Value.int .i64 i_1)) (ht 5 rfl) ?_)
    exact Goes.same hi rfl
   replace hm := ck_some hm; obtain ⟨hc24, hm⟩ := hm
   refine Dw_op (VP O [] (rInt .i64) (a.getD i_1.toNat default)) (VP.stab _ _) (fun ρ21 w22 g hle hi ht => ?_) ?_
   ·
    obtain ⟨-, hst, -⟩ := hle
    replace f_a := f_a.step hst
    refine StepOp_plain (op_indexAddr (q := (rInt .i64)) ty22 ty3 (ht 12 rfl) (ht 13 rfl) f_a rfl hc24.1 hc24.2 ?_)
    intro p25 f26
    exact Goes.same hi ⟨_, rfl, f26⟩
   refine Dw_op (VD O [] (vI .i64) (a.getD i_1.toNat default)) (VD.stab _ _) (fun ρ27 w28 g hle hi ht => ?_) ?_
   ·
    obtain ⟨-, hst, -⟩ := hle
    obtain ⟨p30, q31, f32⟩ := ht 14 rfl
    refine StepOp_plain (op_loadP ty3 q31 f32 rfl ?_)
    intro v33 h34
    obtain ⟨rfl, r_y35⟩ := un_int h34
    exact Goes.same hi (show Vr.vd (vI .i64) _ _ _ _ from ⟨rfl, r_y35⟩)
   refine Dw_eq (Value.slice a_b b.length c_b) (fun ρ36 w37 g hle hi ht => ?_) ?_
   ·
    obtain ⟨-, hst, -⟩ := hle
    refine StepOp_plain (op_move (v := (Value.slice a_b b.length c_b)) (ht 1 rfl) ?_)
    exact Goes.same hi rfl
   refine Dw_eq (Value.int .i64 i_1) (fun ρ39 w40 g hle hi ht => ?_) ?_
   ·
    obtain ⟨-, hst, -⟩ := hle
    refine StepOp_plain (op_move (v := (Value.int .i64 i_1)) (ht 5 rfl) ?_)
    exact Goes.same hi rfl
   replace hm := ck_some hm; obtain ⟨hc45, hm⟩ := hm
   refine Dw_op (VP O [] (rInt .i64) (b.getD i_1.toNat default)) (VP.stab _ _) (fun ρ42 w43 g hle hi ht => ?_) ?_
   ·
    obtain ⟨-, hst, -⟩ := hle
    replace f_b := f_b.step hst
    refine StepOp_plain (op_indexAddr (q := (rInt .i64)) ty22 ty3 (ht 16 rfl) (ht 17 rfl) f_b rfl hc45.1 hc45.2 ?_)
    intro p46 f47
    exact Goes.same hi ⟨_, rfl, f47⟩
   refine Dw_op (VD O [] (vI .i64) (b.getD i_1.toNat default)) (VD.stab _ _) (fun ρ48 w49 g hle hi ht => ?_) ?_
   ·
    obtain ⟨-, hst, -⟩ := hle
    obtain ⟨p51, q52, f53⟩ := ht 18 rfl
    refine StepOp_plain (op_loadP ty3 q52 f53 rfl ?_)
    intro v54 h55
    obtain ⟨rfl, r_y56⟩ := un_int h55
    exact Goes.same hi (show Vr.vd (vI .i64) _ _ _ _ from ⟨rfl, r_y56⟩)
   refine Dw_nil fun w61 g62 hl63 hi64 => ?_
   obtain ⟨-, hst65, -⟩ := hl63
   obtain ⟨hs67, p66⟩ := Step.nx hi64
   rintro v68 h69
   replace h69 : Vr.vd (vI .i64) _ _ _ _ := h69
   obtain ⟨rfl, r_y70⟩ := h69
   rintro _ ⟨p71, rfl, f72⟩
   rintro _ rfl
   rintro _ rfl
   rintro v73 h74
   replace h74 : Vr.vd (vI .i64) _ _ _ _ := h74
   obtain ⟨rfl, r_y75⟩ := h74
   rintro _ ⟨p76, rfl, f77⟩
   rintro _ rfl
   rintro _ rfl
   have p78 : Step (ks [] O) w7 (ks [] O) w61 := hst65.trans p66
   replace f72 := f72.step p66; replace f77 := f77.step p66; replace f_a := f_a.step p78; replace f_b := f_b.step p78; replace ch12 := ch12.trans p78; clear p78 hs8
   refine Rg_op rfl (op_lss rfl rfl ?_)
   refine Rg_nil ?_
   refine Wp_cond rfl (fun hc79 => ?_) (fun hc79 => ?_)
   ·
    replace hm := bif_t hm hc79
    refine Wp_seq ?_
    clear f_a f_b f72 f77
    refine Wp_region ?_
    refine Rg_op rfl (op_assign (v := (Value.int .i64 (-1))) rfl ?_)
    refine Rg_nil ?_
    refine Wp_ret ?_
    have hz := step_all hs67
    refine ⟨_, (show Closes [] _ _ from rfl), [(Value.int .i64 (-1))], ⟨rfl, trivial⟩, hs67.ext, ?_⟩
    exact Vr.eq (a := (vI .i64)) (x := (-1)) ⟨rfl, (show InK .i64 (-1) from by decide)⟩ (Option.some.inj hm)
   ·
    replace hm := bif_f hm hc79
    refine Wp_skip ?_
    refine Wp_seq ?_
    clear f72 f77
    refine Wp_drawR (g0 := []) (m := 8) (fl := []) (TS_inv hs67) rfl (.inl rfl) rfl (by decide +kernel) ?_  -- 6
    refine Dw_eq (Value.slice a_a a.length c_a) (fun ρ80 w81 g hle hi ht => ?_) ?_
    ·
     obtain ⟨-, hst, -⟩ := hle
     refine StepOp_plain (op_move (v := (Value.slice a_a a.length c_a)) (ht 0 rfl) ?_)
     exact Goes.same hi rfl
    refine Dw_eq (Value.int .i64 i_1) (fun ρ83 w84 g hle hi ht => ?_) ?_
    ·
     obtain ⟨-, hst, -⟩ := hle
     refine StepOp_plain (op_move (v := (Value.int .i64 i_1)) (ht 5 rfl) ?_)
     exact Goes.same hi rfl
    replace hm := ck_some hm; obtain ⟨hc89, hm⟩ := hm
    refine Dw_op (VP O [] (rInt .i64) (a.getD i_1.toNat default)) (VP.stab _ _) (fun ρ86 w87 g hle hi ht => ?_) ?_
    ·
     obtain ⟨-, hst, -⟩ := hle
     replace f_a := f_a.step hst
     refine StepOp_plain (op_indexAddr (q := (rInt .i64)) ty22 ty3 (ht 21 rfl) (ht 22 rfl) f_a rfl hc89.1 hc89.2 ?_)
     intro p90 f91
     exact Goes.same hi ⟨_, rfl, f91⟩
    refine Dw_op (VD O [] (vI .i64) (a.getD i_1.toNat default)) (VD.stab _ _) (fun ρ92 w93 g hle hi ht => ?_) ?_
    ·
     obtain ⟨-, hst, -⟩ := hle
     obtain ⟨p95, q96, f97⟩ := ht 23 rfl
     refine StepOp_plain (op_loadP ty3 q96 f97 rfl ?_)
     intro v98 h99
     obtain ⟨rfl, r_y100⟩ := un_int h99
     exact Goes.same hi (show Vr.vd (vI .i64) _ _ _ _ from ⟨rfl, r_y100⟩)
    refine Dw_eq (Value.slice a_b b.length c_b) (fun ρ101 w102 g hle hi ht => ?_) ?_
    ·
     obtain ⟨-, hst, -⟩ := hle
     refine StepOp_plain (op_move (v := (Value.slice a_b b.length c_b)) (ht 1 rfl) ?_)
     exact Goes.same hi rfl
    refine Dw_eq (Value.int .i64 i_1) (fun ρ104 w105 g hle hi ht => ?_) ?_
    ·
     obtain ⟨-, hst, -⟩ := hle
     refine StepOp_plain (op_move (v := (Value.int .i64 i_1)) (ht 5 rfl) ?_)
     exact Goes.same hi rfl
    replace hm := ck_some hm; obtain ⟨hc110, hm⟩ := hm
    refine Dw_op (VP O [] (rInt .i64) (b.getD i_1.toNat default)) (VP.stab _ _) (fun ρ107 w108 g hle hi ht => ?_) ?_
    ·
     obtain ⟨-, hst, -⟩ := hle
     replace f_b := f_b.step hst
     refine StepOp_plain (op_indexAddr (q := (rInt .i64)) ty22 ty3 (ht 25 rfl) (ht 26 rfl) f_b rfl hc110.1 hc110.2 ?_)
     intro p111 f112
     exact Goes.same hi ⟨_, rfl, f112⟩
    refine Dw_op (VD O [] (vI .i64) (b.getD i_1.toNat default)) (VD.stab _ _) (fun ρ113 w114 g hle hi ht => ?_) ?_
    ·
     obtain ⟨-, hst, -⟩ := hle
     obtain ⟨p116, q117, f118⟩ := ht 27 rfl
     refine StepOp_plain (op_loadP ty3 q117 f118 rfl ?_)
     intro v119 h120
     obtain ⟨rfl, r_y121⟩ := un_int h120
     exact Goes.same hi (show Vr.vd (vI .i64) _ _ _ _ from ⟨rfl, r_y121⟩)
    refine Dw_nil fun w126 g127 hl128 hi129 => ?_
    obtain ⟨-, hst130, -⟩ := hl128
    obtain ⟨hs132, p131⟩ := Step.nx hi129
    rintro v133 h134
    replace h134 : Vr.vd (vI .i64) _ _ _ _ := h134
    obtain ⟨rfl, r_y135⟩ := h134
    rintro _ ⟨p136, rfl, f137⟩
    rintro _ rfl
    rintro _ rfl
    rintro v138 h139
    replace h139 : Vr.vd (vI .i64) _ _ _ _ := h139
    obtain ⟨rfl, r_y140⟩ := h139
    rintro _ ⟨p141, rfl, f142⟩
    rintro _ rfl
    rintro _ rfl
    have p143 : Step (ks [] O) w61 (ks [] O) w126 := hst130.trans p131
    replace f137 := f137.step p131; replace f142 := f142.step p131; replace f_a := f_a.step p143; replace f_b := f_b.step p143; replace ch12 := ch12.trans p143; clear p143 hs67
    refine Rg_op rfl (op_gtr rfl rfl ?_)
    refine Rg_nil ?_
    refine Wp_cond rfl (fun hc144 => ?_) (fun hc144 => ?_)
    ·
     replace hm := bif_t hm hc144
     refine Wp_seq ?_
     clear f_a f_b f137 f142
     refine Wp_region ?_
     refine Rg_op rfl (op_assign (v := (Value.int .i64 1)) rfl ?_)
     refine Rg_nil ?_
     refine Wp_ret ?_
     have hz := step_all hs132
     refine ⟨_, (show Closes [] _ _ from rfl), [(Value.int .i64 1)], ⟨rfl, trivial⟩, hs132.ext, ?_⟩
     exact Vr.eq (a := (vI .i64)) (x := 1) ⟨rfl, (show InK .i64 1 from by decide)⟩ (Option.some.inj hm)
    ·
     replace hm := bif_f hm hc144
     refine Wp_skip ?_
     clear f137 f142
     refine Wp_region ?_
     refine Rg_op rfl (op_move (v := (Value.int .i64 i_1)) rfl ?_)
     refine Rg_op rfl (op_addw rfl rfl ?_)
     refine Rg_op rfl (op_assign (v := (Value.int .i64 (IntKind.wrap .i64 (i_1 + 1)))) rfl ?_)
     refine Rg_nil ?_
     exact hK5 _ _ ⟨(IntKind.wrap .i64 (i_1 + 1)), _, rfl, ⟨(by repeat (first | with_reducible exact Out.refl _ _ | refine Out.upd ?_ rfl | refine Out.updL ?_ rfl | refine Out.mix' ?_ rfl | exact Out.refl _ _)), rfl, rfl, trivial⟩, ch12, hs132, (inK_wrap .i64 _), jnE1 hsf4 hm⟩
  ·
   replace hm := bif_f hm hc14
   refine Wp_exit ?_
   refine Wp_seq ?_
   clear f_a f_b
   refine Wp_region ?_
   refine Rg_op rfl (op_assign (v := (Value.int .i64 0)) rfl ?_)
   refine Rg_nil ?_
   refine Wp_ret ?_
   have hz := step_all hs8
   refine ⟨_, (show Closes [] _ _ from rfl), [(Value.int .i64 0)], ⟨rfl, trivial⟩, hs8.ext, ?_⟩
   exact Vr.eq (a := (vI .i64)) (x := 0) ⟨rfl, (show InK .i64 0 from by decide)⟩ (Option.some.inj hm)

end Go.Fx



set_option linter.unusedVariables false
set_option linter.unusedSimpArgs false
set_option maxRecDepth 100000
set_option maxHeartbeats 0
namespace Go.Fx
open Go Go.RowKit Go.Proofs
def m19_overflightref06_Same (a : List Int) (b : List Int) : Option Bool :=
 bif (decide ((a.length : Int) = (b.length : Int))) then
  (m35_overflightref06_Order a b).bind fun order_1 =>
  some (decide (order_1 = 0))
 else
  some false

theorem c19_overflightref06_Same {w : World} {O : List Nat} {a : List Int} {b : List Int} {a_a : Option Addr} {c_a : Nat} {a_b : Option Addr} {c_b : Nat} (hO : ∀ k ∈ O, k < w.heap.size) (f_a : SlR (rInt .i64) w O a_a c_a a) (f_b : SlR (rInt .i64) w O a_b c_b b) {x : Bool} (hm : m19_overflightref06_Same a b = some x) :
  Ok Try.prog 19 [(Value.slice a_a a.length c_a), (Value.slice a_b b.length c_b)] w O vB x := by
 unfold m19_overflightref06_Same at hm
 refine Fn_of_Wp (n := 16) (xs := [.tmp 4]) Try.func19 rfl Try.ntmps19 Try.results19 rfl ?_
 have hs := St.start hO
 refine Wp_seq ?_
 refine Wp_region ?_
 refine Rg_op rfl (op_assign (v := (Value.bool false)) rfl ?_)
 refine Rg_nil ?_
 refine Wp_seq ?_
 refine Wp_region ?_
 refine Rg_op rfl (op_move (v := (Value.slice a_a a.length c_a)) rfl ?_)
 refine Rg_op rfl (op_len Try.underlying22 rfl ?_)
 have rl1 := inK_len f_a
 refine Rg_op rfl (op_move (v := (Value.slice a_b b.length c_b)) rfl ?_)
 refine Rg_op rfl (op_len Try.underlying22 rfl ?_)
 have rl2 := inK_len f_b
 refine Rg_op rfl (op_eql rfl rfl ?_)
 refine Rg_op rfl (op_move (v := (Value.bool (decide ((a.length : Int) = (b.length : Int))))) rfl ?_)
 refine Rg_case (fun hg3 => ?_) (fun hg3 => ?_)
 ·
  replace hm := bif_t hm hg3
  refine Rg_opg rfl rfl rfl (op_move (v := (Value.slice a_a a.length c_a)) rfl ?_)
  refine Rg_opg rfl rfl rfl (op_move (v := (Value.slice a_b b.length c_b)) rfl ?_)
  replace hm := bd hm; obtain ⟨order_1, hv4, hm⟩ := hm
  refine Rg_opg rfl rfl rfl (op_call Try.call35 (c35_overflightref06_Order (a := a) (b := b) hs.ltw f_a f_b hv4) rfl ?_)
  rintro v5 w6 ⟨hx7, h8⟩
  have hs9 := hs.call hx7
  have p10 := Step.ext (O := ks [] O) hx7
  clear hx7
  replace f_a := f_a.step p10; replace f_b := f_b.step p10; clear p10
  obtain ⟨rfl, r_y11⟩ := h8
  refine Rg_opg rfl rfl rfl (op_eql rfl rfl ?_)
  refine Rg_op rfl (op_pick_t (v := (Value.bool (decide (order_1 = 0)))) rfl rfl ?_)
  refine Rg_op rfl (op_assign (v := (Value.bool (decide (order_1 = 0)))) rfl ?_)
  refine Rg_nil ?_
  refine Wp_ret ?_
  have hz := step_all hs9
  replace f_a := f_a.step hz; replace f_b := f_b.step hz
  refine ⟨_, (show Closes [] _ _ from rfl), [(Value.bool (decide (order_1 = 0)))], ⟨rfl, trivial⟩, hs9.ext, ?_⟩
  exact Vr.eq (a := vB) (x := (decide (order_1 = 0))) rfl (Option.some.inj hm)
 ·
  replace hm := bif_f hm hg3
  iterate 4 refine Rg_opx rfl (asB_ne rfl rfl) rfl ?_
  refine Rg_op rfl (op_pick_f (v := (Value.bool false)) rfl rfl ?_)
  refine Rg_op rfl (op_assign (v := (Value.bool false)) rfl ?_)
  refine Rg_nil ?_
  refine Wp_ret ?_
  have hz := step_all hs
  replace f_a := f_a.step hz; replace f_b := f_b.step hz
  refine ⟨_, (show Closes [] _ _ from rfl), [(Value.bool false)], ⟨rfl, trivial⟩, hs.ext, ?_⟩
  exact Vr.eq (a := vB) (x := false) rfl (Option.some.inj hm)

end Go.Fx



set_option linter.unusedVariables false
set_option linter.unusedSimpArgs false
set_option maxRecDepth 100000
set_option maxHeartbeats 0
namespace Go.Fx
open Go Go.RowKit Go.Proofs
def m56_slices_IndexFuncint_int__B0 (s : List (List Int)) (f : Option ((List Int) → Option Bool)) (sf4 : Int → Option Int) (v_1 : Int) : Option Int :=
 bif (decide (v_1 < (s.length : Int))) then
  ck ((0 : Int) ≤ v_1 ∧ v_1 < (s.length : Int)) <|
  (callO f (s.getD v_1.toNat default)).bind fun r_1 =>
  bif r_1 then
   some v_1
  else
   sf4 (IntKind.wrap .i64 (v_1 + 1))
 else
  some (-1)

def m56_slices_IndexFuncint_int_ (s : List (List Int)) (f : Option ((List Int) → Option Bool)) : Option Int :=
 loop1 (m56_slices_IndexFuncint_int__B0 s f) (((s.length : Int) - 0).toNat + 1) 0

theorem c56_slices_IndexFuncint_int_ {w : World} {O : List Nat} {s : List (List Int)} {f : Option ((List Int) → Option Bool)} {a_s : Option Addr} {c_s : Nat} {v_f : Value} (hO : ∀ k ∈ O, k < w.heap.size) (f_s : SlR (rSl (rInt .i64)) w O a_s c_s s) (F_f : CallsO1 Try.prog w O v_f (vC (rSl (rInt .i64))) vB f) {x : Int} (hm : m56_slices_IndexFuncint_int_ s f = some x) :
  Ok Try.prog 56 [(Value.slice a_s s.length c_s), v_f] w O (vI .i64) x := by
 unfold m56_slices_IndexFuncint_int_ at hm
 refine Fn_of_Wp (n := 19) (xs := [.tmp 4]) Try.func56 rfl Try.ntmps56 Try.results56 rfl ?_
 have hs := St.start hO
 refine Wp_seq ?_
 refine Wp_region ?_
 refine Rg_op rfl (op_assign (v := (Value.int .i64 0)) rfl ?_)
 refine Rg_nil ?_
 refine Wp_seq ?_
 refine Wp_seq ?_
 refine Wp_region ?_
 refine Rg_op rfl (op_move (v := (Value.slice a_s s.length c_s)) rfl ?_)
 refine Rg_op rfl (op_len Try.underlying33 rfl ?_)
 have rl1 := inK_len f_s
 refine Rg_op rfl (op_move (v := (Value.int .i64 0)) rfl ?_)
 refine Rg_nil ?_
 refine Wp_block ?_
 refine Wp_reset [] [(0, (Value.slice a_s s.length c_s)), (1, v_f), (7, (Value.int .i64 (s.length : Int))), (8, (Value.int .i64 0))] rfl ⟨rfl, rfl, rfl, rfl, trivial⟩ fun ξ3 => ?_
 refine Wp_loopM [4, 5, 8, 9, 10, 11, 12, 13, 14, 15, 16, 17, 18] (fun m fr w' => ∃ (v_1 : Int) (Ebs : Ents), Ebs = [] ∧ fr [] [(8, (Value.int .i64 v_1))] ∧ Step (ks [] O) w (ks Ebs O) w' ∧ St ⟨w, [], []⟩ O w' Ebs ∧ InK .i64 v_1 ∧ loop1 (m56_slices_IndexFuncint_int__B0 s f) m v_1 = some x) (((s.length : Int) - 0).toNat + 1) ⟨0, _, rfl, ⟨Out.refl _ _, rfl, rfl, trivial⟩, Step.refl _ _, hs, (show InK .i64 0 from by decide), hm⟩ ?_ ?_
 · rintro _ _ ⟨_, _, _, _, _, _, _, hm⟩; exact loop1_z hm
 ·
  rintro m7 K6 hK6 ρ12 w8 ⟨v_1, Ebs, hEbs, hfr11, hst10, hs9, r_y2, hm⟩
  obtain ⟨sf4, hsf5, hm⟩ := loop1_s hm; unfold m56_slices_IndexFuncint_int__B0 at hm
  subst hEbs; rw [hfr11.eq]; clear hfr11
  replace f_s := f_s.step hst10; replace F_f := F_f.step hst10
  have ch13 := hst10
  refine Wp_seq ?_
  refine Wp_region ?_
  refine Rg_op rfl (op_lss rfl rfl ?_)
  refine Rg_nil ?_
  refine Wp_seq ?_
  refine Wp_cond rfl (fun hc14 => ?_) (fun hc14 => ?_)
  ·
   replace hm := bif_t hm hc14
   refine Wp_skip ?_
   refine Wp_seq ?_
   refine Wp_block ?_
   refine Wp_seq ?_
   refine Wp_region ?_
   refine Rg_op rfl (op_move (v := (Value.int .i64 v_1)) rfl ?_)
   refine Rg_op rfl (op_assign (v := (Value.int .i64 v_1)) rfl ?_)
   refine Rg_nil ?_
   refine Wp_seq ?_
   refine Wp_region ?_
   refine Rg_op rfl (op_move (v := v_f) rfl ?_)
   refine Rg_op rfl (op_move (v := (Value.slice a_s s.length c_s)) rfl ?_)
   refine Rg_op rfl (op_move (v := (Value.int .i64 v_1)) rfl ?_)
   replace hm := ck_some hm; obtain ⟨hc15, hm⟩ := hm
   refine Rg_op rfl (op_indexAddr (q := (rSl (rInt .i64))) ty33 ty22 rfl rfl f_s rfl hc15.1 hc15.2 ?_)
   intro p16 f17
   refine Rg_op rfl (op_loadP ty22 rfl f17 rfl ?_)
   intro v18 h19
   obtain ⟨a_y20, c_y20, rfl, f_y20⟩ := un_sl h19
   replace hm := bd hm; obtain ⟨r_1, hv21, hm⟩ := hm
   refine Rg_op rfl (op_callF rfl (F_f.call hs9.ltw (mkC (mk_sl f_y20)) hv21) rfl ?_)
   rintro v22 w23 ⟨hx24, h25⟩
   have hs26 := hs9.call hx24
   have p27 := Step.ext (O := ks [] O) hx24
   clear hx24
   replace f_s := f_s.step p27; replace F_f := F_f.step p27; replace f17 := f17.step p27; replace f_y20 := f_y20.step p27; replace ch13 := ch13.trans p27; clear p27 hs9
   obtain rfl := h25
   refine Rg_nil ?_
   refine Wp_cond rfl (fun hc29 => ?_) (fun hc29 => ?_)
   ·
    replace hm := bif_t hm hc29
    refine Wp_seq ?_
    clear f_s F_f f17 f_y20
    refine Wp_region ?_
    refine Rg_op rfl (op_move (v := (Value.int .i64 v_1)) rfl ?_)
    refine Rg_op rfl (op_assign (v := (Value.int .i64 v_1)) rfl ?_)
    refine Rg_nil ?_
    refine Wp_ret ?_
    have hz := step_all hs26
    refine ⟨_, (show Closes [] _ _ from rfl), [(Value.int .i64 v_1)], ⟨rfl, trivial⟩, hs26.ext, ?_⟩
    exact Vr.eq (a := (vI .i64)) (x := v_1) ⟨rfl, r_y2⟩ (Option.some.inj hm)
   ·
    replace hm := bif_f hm hc29
    refine Wp_skip ?_
    clear f17 f_y20
    refine Wp_region ?_
    refine Rg_op rfl (op_addw rfl rfl ?_)
    refine Rg_op rfl (op_move (v := (Value.int .i64 (IntKind.wrap .i64 (v_1 + 1)))) rfl ?_)
    refine Rg_nil ?_
    exact hK6 _ _ ⟨(IntKind.wrap .i64 (v_1 + 1)), _, rfl, ⟨(by repeat (first | with_reducible exact Out.refl _ _ | refine Out.upd ?_ rfl | refine Out.updL ?_ rfl | refine Out.mix' ?_ rfl | exact Out.refl _ _)), rfl, rfl, trivial⟩, ch13, hs26, (inK_wrap .i64 _), jnE1 hsf5 hm⟩
  ·
   replace hm := bif_f hm hc14
   refine Wp_exit ?_
   refine Wp_seq ?_
   clear f_s F_f
   refine Wp_region ?_
   refine Rg_op rfl (op_assign (v := (Value.int .i64 (-1))) rfl ?_)
   refine Rg_nil ?_
   refine Wp_ret ?_
   have hz := step_all hs9
   refine ⟨_, (show Closes [] _ _ from rfl), [(Value.int .i64 (-1))], ⟨rfl, trivial⟩, hs9.ext, ?_⟩
   exact Vr.eq (a := (vI .i64)) (x := (-1)) ⟨rfl, (show InK .i64 (-1) from by decide)⟩ (Option.some.inj hm)

end Go.Fx



set_option linter.unusedVariables false
set_option linter.unusedSimpArgs false
set_option maxRecDepth 100000
set_option maxHeartbeats 0
namespace Go.Fx
open Go Go.RowKit Go.Proofs
def m42_slices_ContainsFuncint_int_ (s : List (List Int)) (f : Option ((List Int) → Option Bool)) : Option Bool :=
 (m56_slices_IndexFuncint_int_ s f).bind fun indexfunc_1 =>
 some (decide (0 ≤ indexfunc_1))

theorem c42_slices_ContainsFuncint_int_ {w : World} {O : List Nat} {s : List (List Int)} {f : Option ((List Int) → Option Bool)} {a_s : Option Addr} {c_s : Nat} {v_f : Value} (hO : ∀ k ∈ O, k < w.heap.size) (f_s : SlR (rSl (rInt .i64)) w O a_s c_s s) (F_f : CallsO1 Try.prog w O v_f (vC (rSl (rInt .i64))) vB f) {x : Bool} (hm : m42_slices_ContainsFuncint_int_ s f = some x) :
  Ok Try.prog 42 [(Value.slice a_s s.length c_s), v_f] w O vB x := by
 unfold m42_slices_ContainsFuncint_int_ at hm
 refine Fn_of_Wp (n := 9) (xs := [.tmp 4]) Try.func42 rfl Try.ntmps42 Try.results42 rfl ?_
 have hs := St.start hO
 refine Wp_seq ?_
 refine Wp_region ?_
 refine Rg_op rfl (op_assign (v := (Value.bool false)) rfl ?_)
 refine Rg_nil ?_
 refine Wp_seq ?_
 refine Wp_region ?_
 refine Rg_op rfl (op_move (v := (Value.slice a_s s.length c_s)) rfl ?_)
 refine Rg_op rfl (op_move (v := v_f) rfl ?_)
 replace hm := bd hm; obtain ⟨indexfunc_1, hv1, hm⟩ := hm
 refine Rg_op rfl (op_call Try.call56 (c56_slices_IndexFuncint_int_ (s := s) (f := f) hs.ltw f_s F_f hv1) rfl ?_)
 rintro v2 w3 ⟨hx4, h5⟩
 have hs6 := hs.call hx4
 have p7 := Step.ext (O := ks [] O) hx4
 clear hx4
 replace f_s := f_s.step p7; replace F_f := F_f.step p7; clear p7
 obtain ⟨rfl, r_y8⟩ := h5
 refine Rg_op rfl (op_geq rfl rfl ?_)
 refine Rg_op rfl (op_assign (v := (Value.bool (decide (0 ≤ indexfunc_1)))) rfl ?_)
 refine Rg_nil ?_
 refine Wp_ret ?_
 have hz := step_all hs6
 replace f_s := f_s.step hz; replace F_f := F_f.step hz
 refine ⟨_, (show Closes [] _ _ from rfl), [(Value.bool (decide (0 ≤ indexfunc_1)))], ⟨rfl, trivial⟩, hs6.ext, ?_⟩
 exact Vr.eq (a := vB) (x := (decide (0 ≤ indexfunc_1))) rfl (Option.some.inj hm)

end Go.Fx



set_option linter.unusedVariables false
set_option linter.unusedSimpArgs false
set_option maxRecDepth 100000
set_option maxHeartbeats 0
namespace Go.Fx
open Go Go.RowKit Go.Proofs
def m49_vector_alike_1 (a : List Int) (fv0_ : List (List Int)) (fv1_ : Option ((List Int) → Option Bool)) : Option Bool :=
 ck ((0 : Int) ≤ 0 ∧ 0 < (fv0_.length : Int)) <|
 bif (decide ((a.length : Int) ≠ ((fv0_.getD 0 default).length : Int))) then
  some true
 else
  bif fv1_.isSome then
   (callO fv1_ a).bind fun r_1 =>
   some (!r_1)
  else
   some false

theorem c49_vector_alike_1 {w : World} {O : List Nat} {a : List Int} {fv0_ : List (List Int)} {fv1_ : Option ((List Int) → Option Bool)} {a_a : Option Addr} {c_a : Nat} {p_fv0_ : Addr} {p_fv1_ : Addr} (hO : ∀ k ∈ O, k < w.heap.size) (f_a : SlR (rInt .i64) w O a_a c_a a) (f_fv0_ : PtR (rSl (rSl (rInt .i64))) w O p_fv0_ fv0_) (f_fv1_ : PtR (rFO Try.prog (vC (rSl (rInt .i64))) vB) w O p_fv1_ fv1_) {x : Bool} (hm : m49_vector_alike_1 a fv0_ fv1_ = some x) :
  Ok Try.prog 49 [(Value.slice a_a a.length c_a), (Value.pointer (some p_fv0_)), (Value.pointer (some p_fv1_))] w O vB x := by
 unfold m49_vector_alike_1 at hm
 refine Fn_of_Wp (n := 22) (xs := [.tmp 4]) Try.func49 rfl Try.ntmps49 Try.results49 rfl ?_
 have hs := St.start hO
 refine Wp_seq ?_
 refine Wp_region ?_
 refine Rg_op rfl (op_assign (v := (Value.bool false)) rfl ?_)
 refine Rg_nil ?_
 refine Wp_seq ?_
 refine Wp_region ?_
 refine Rg_op rfl (op_move (v := (Value.slice a_a a.length c_a)) rfl ?_)
 refine Rg_op rfl (op_len Try.underlying22 rfl ?_)
 have rl1 := inK_len f_a
 refine Rg_op rfl (op_loadP ty33 rfl f_fv0_ rfl ?_)
 intro v2 h3
 obtain ⟨a_y4, c_y4, rfl, f_y4⟩ := un_sl h3
 replace hm := ck_some hm; obtain ⟨hc5, hm⟩ := hm
 refine Rg_op rfl (op_indexAddr (q := (rSl (rInt .i64))) ty33 ty22 rfl rfl f_y4 rfl hc5.1 hc5.2 ?_)
 intro p6 f7
 refine Rg_op rfl (op_loadP ty22 rfl f7 rfl ?_)
 intro v8 h9
 obtain ⟨a_y10, c_y10, rfl, f_y10⟩ := un_sl h9
 refine Rg_op rfl (op_len Try.underlying22 rfl ?_)
 have rl11 := inK_len f_y10
 refine Rg_op rfl (op_neq rfl rfl ?_)
 refine Rg_op rfl (op_move (v := (Value.bool (decide ((a.length : Int) ≠ ((fv0_.getD 0 default).length : Int))))) rfl ?_)
 refine Rg_case (fun hg12 => ?_) (fun hg12 => ?_)
 ·
  replace hm := bif_t hm hg12
  iterate 8 refine Rg_opx rfl (asB_ne rfl rfl) rfl ?_
  refine Rg_op rfl (op_pick_t (v := (Value.bool true)) rfl rfl ?_)
  refine Rg_op rfl (op_assign (v := (Value.bool true)) rfl ?_)
  refine Rg_nil ?_
  refine Wp_ret ?_
  have hz := step_all hs
  replace f_a := f_a.step hz; replace f_fv0_ := f_fv0_.step hz; replace f_fv1_ := f_fv1_.step hz; replace f_y4 := f_y4.step hz; replace f7 := f7.step hz; replace f_y10 := f_y10.step hz
  refine ⟨_, (show Closes [] _ _ from rfl), [(Value.bool true)], ⟨rfl, trivial⟩, hs.ext, ?_⟩
  exact Vr.eq (a := vB) (x := true) rfl (Option.some.inj hm)
 ·
  replace hm := bif_f hm hg12
  refine Rg_opg rfl rfl rfl (op_loadP ty44 rfl f_fv1_ rfl ?_)
  intro v13 h14
  have F15 := un_fo h14; clear h14
  refine Rg_opg rfl rfl rfl (op_nilF Try.underlying44 rfl F15 rfl ?_)
  refine Rg_opg rfl rfl rfl (op_move (v := (Value.bool fv1_.isSome)) rfl ?_)
  refine Rg_case (fun hg16 => ?_) (fun hg16 => ?_)
  ·
   replace hm := bif_t hm hg16
   refine Rg_opg rfl rfl rfl (op_loadP ty44 rfl f_fv1_ rfl ?_)
   intro v17 h18
   have F19 := un_fo h18; clear h18
   refine Rg_opg rfl rfl rfl (op_move (v := (Value.slice a_a a.length c_a)) rfl ?_)
   replace hm := bd hm; obtain ⟨r_1, hv20, hm⟩ := hm
   refine Rg_opg rfl rfl rfl (op_callF rfl (F19.call hs.ltw (mkC (mk_sl f_a)) hv20) rfl ?_)
   rintro v21 w22 ⟨hx23, h24⟩
   have hs25 := hs.call hx23
   have p26 := Step.ext (O := ks [] O) hx23
   clear hx23
   replace f_a := f_a.step p26; replace f_fv0_ := f_fv0_.step p26; replace f_fv1_ := f_fv1_.step p26; replace f_y4 := f_y4.step p26; replace f7 := f7.step p26; replace f_y10 := f_y10.step p26; replace F15 := F15.step p26; replace F19 := F19.step p26; clear p26
   obtain rfl := h24
   refine Rg_opg rfl rfl rfl (op_not rfl ?_)
   refine Rg_opg rfl rfl rfl (op_pick_t (v := (Value.bool (!r_1))) rfl rfl ?_)
   refine Rg_op rfl (op_pick_f (v := (Value.bool (!r_1))) rfl rfl ?_)
   refine Rg_op rfl (op_assign (v := (Value.bool (!r_1))) rfl ?_)
   refine Rg_nil ?_
   refine Wp_ret ?_
   have hz := step_all hs25
   replace f_a := f_a.step hz; replace f_fv0_ := f_fv0_.step hz; replace f_fv1_ := f_fv1_.step hz; replace f_y4 := f_y4.step hz; replace f7 := f7.step hz; replace f_y10 := f_y10.step hz; replace F15 := F15.step hz; replace F19 := F19.step hz
   refine ⟨_, (show Closes [] _ _ from rfl), [(Value.bool (!r_1))], ⟨rfl, trivial⟩, hs25.ext, ?_⟩
   exact Vr.eq (a := vB) (x := (!r_1)) rfl (Option.some.inj hm)
  ·
   replace hm := bif_f hm hg16
   iterate 4 refine Rg_opx rfl (asB_ne rfl rfl) rfl ?_
   refine Rg_opg rfl rfl rfl (op_pick_f (v := (Value.bool false)) rfl rfl ?_)
   refine Rg_op rfl (op_pick_f (v := (Value.bool false)) rfl rfl ?_)
   refine Rg_op rfl (op_assign (v := (Value.bool false)) rfl ?_)
   refine Rg_nil ?_
   refine Wp_ret ?_
   have hz := step_all hs
   replace f_a := f_a.step hz; replace f_fv0_ := f_fv0_.step hz; replace f_fv1_ := f_fv1_.step hz; replace f_y4 := f_y4.step hz; replace f7 := f7.step hz; replace f_y10 := f_y10.step hz; replace F15 := F15.step hz
   refine ⟨_, (show Closes [] _ _ from rfl), [(Value.bool false)], ⟨rfl, trivial⟩, hs.ext, ?_⟩
   exact Vr.eq (a := vB) (x := false) rfl (Option.some.inj hm)

end Go.Fx



set_option linter.unusedVariables false
set_option linter.unusedSimpArgs false
set_option maxRecDepth 100000
set_option maxHeartbeats 0
namespace Go.Fx
open Go Go.RowKit Go.Proofs
def m36_vector_alike (l : List (List Int)) (ask : Option ((List Int) → Option Bool)) : Option Bool :=
 (m42_slices_ContainsFuncint_int_ l (some (fun x17 => m49_vector_alike_1 x17 l ask))).bind fun containsfunc_1 =>
 some (!containsfunc_1)

theorem c36_vector_alike {w : World} {O : List Nat} {l : List (List Int)} {ask : Option ((List Int) → Option Bool)} {a_l : Option Addr} {c_l : Nat} {v_ask : Value} (hO : ∀ k ∈ O, k < w.heap.size) (f_l : SlR (rSl (rInt .i64)) w O a_l c_l l) (F_ask : CallsO1 Try.prog w O v_ask (vC (rSl (rInt .i64))) vB ask) {x : Bool} (hm : m36_vector_alike l ask = some x) :
  Ok Try.prog 36 [(Value.slice a_l l.length c_l), v_ask] w O vB x := by
 unfold m36_vector_alike at hm
 refine Fn_of_Wp (n := 9) (xs := [.tmp 4]) Try.func36 rfl Try.ntmps36 Try.results36 rfl ?_
 have hs := St.start hO
 refine Wp_seq ?_
 refine Wp_region ?_
 refine Rg_op rfl (op_box (cs := [(Value.slice a_l l.length c_l)]) hs rfl rfl ?_)
 intro b1 w2 _ p3 hs4
 replace f_l := f_l.step p3; replace F_ask := F_ask.step p3; clear p3
 refine Rg_op rfl (op_box (cs := [v_ask]) hs4 (show ev _ _ = v_ask from rfl) F_ask.cells ?_)
 intro b6 w7 _ p8 hs9
 replace f_l := f_l.step p8; replace F_ask := F_ask.step p8; clear p8 hs4
 refine Rg_op rfl (op_assign (v := (Value.bool false)) rfl ?_)
 refine Rg_nil ?_
 refine Wp_seq ?_
 refine Wp_region ?_
 refine Rg_op rfl (op_load (cs := [(Value.slice a_l l.length c_l)]) (i := 1) ty33 hs9 rfl rfl rfl ?_)
 obtain ⟨hs12, p13, f11⟩ := St.publishP (p := (rSl (rSl (rInt .i64)))) (i := 1) (x := l) hs9 rfl (mk_sl f_l)
 replace f_l := f_l.step p13; replace F_ask := F_ask.step p13; clear p13 hs9
 obtain ⟨hs15, p16, f14⟩ := St.publishP (p := (rFO Try.prog (vC (rSl (rInt .i64))) vB)) (i := 0) (x := ask) hs12 rfl (mk_fo F_ask)
 replace f_l := f_l.step p16; replace F_ask := F_ask.step p16; replace f11 := f11.step p16; clear p16 hs12
 refine Rg_op rfl (op_makeFunc' (a' := []) (c' := [(Value.pointer (some (⟨b1, 0, none⟩ : Addr))), (Value.pointer (some (⟨b6, 0, none⟩ : Addr)))]) rfl rfl ?_)
 have F18 : CallsTo1 Try.prog w7 (ks [] O) (Value.func (.func 49) #[] #[(Value.pointer (some (⟨b1, 0, none⟩ : Addr))), (Value.pointer (some (⟨b6, 0, none⟩ : Addr)))]) (vC (rSl (rInt .i64))) vB (fun x17 => m49_vector_alike_1 x17 l ask) := by
  intro w19 O20 st21 hO22 v25 x17 y23 h26 hy24
  obtain ⟨a_y27, c_y27, rfl, f_y27⟩ := un_sl h26
  exact ⟨49, #[], #[(Value.pointer (some (⟨b1, 0, none⟩ : Addr))), (Value.pointer (some (⟨b6, 0, none⟩ : Addr)))], rfl, Try.call49, c49_vector_alike_1 (a := x17) hO22 f_y27 (f11.step st21) (f14.step st21) hy24⟩
 replace hm := bd hm; obtain ⟨containsfunc_1, hv28, hm⟩ := hm
 refine Rg_op rfl (op_call Try.call42 (c42_slices_ContainsFuncint_int_ (s := l) (f := (some (fun x17 => m49_vector_alike_1 x17 l ask))) hs15.ltw f_l (CallsO1.some_ F18) hv28) rfl ?_)
 rintro v29 w30 ⟨hx31, h32⟩
 have hs33 := hs15.call hx31
 have p34 := Step.ext (O := ks [] O) hx31
 clear hx31
 replace f_l := f_l.step p34; replace F_ask := F_ask.step p34; replace f11 := f11.step p34; replace f14 := f14.step p34; replace F18 := F18.step p34; clear p34 hs15
 obtain rfl := h32
 refine Rg_op rfl (op_not rfl ?_)
 refine Rg_op rfl (op_assign (v := (Value.bool (!containsfunc_1))) rfl ?_)
 refine Rg_nil ?_
 refine Wp_ret ?_
 have hz := step_all hs33
 replace f_l := f_l.step hz; replace F_ask := F_ask.step hz; replace f11 := f11.step hz; replace f14 := f14.step hz; replace F18 := F18.step hz
 refine ⟨_, (show Closes [] _ _ from rfl), [(Value.bool (!containsfunc_1))], ⟨rfl, trivial⟩, hs33.ext, ?_⟩
 exact Vr.eq (a := vB) (x := (!containsfunc_1)) rfl (Option.some.inj hm)

end Go.Fx



set_option linter.unusedVariables false
set_option linter.unusedSimpArgs false
set_option maxRecDepth 100000
set_option maxHeartbeats 0
namespace Go.Fx
open Go Go.RowKit Go.Proofs
def m50_slices_Cloneint_int_ (s : List (List Int)) : Option (List (List Int)) :=
 ck ((([] : List (List Int)).length + s.length) * 24 ≤ 140737488355328) <|
 some (([] : List (List Int)) ++ s)

theorem g50_slices_Cloneint_int_ {w : World} {O : List Nat} {s : List (List Int)} {a_s : Option Addr} {c_s : Nat} (hO : ∀ k ∈ O, k < w.heap.size) (f_s : SlR (rSl (rInt .i64)) w O a_s c_s s) {x : (List (List Int))} (hm : m50_slices_Cloneint_int_ s = some x) :
  OkG Try.prog 50 [(Value.slice a_s s.length c_s)] w O (rSl (rInt .i64)) 22 x := by
 unfold m50_slices_Cloneint_int_ at hm
 refine Fn_of_Wp (n := 8) (xs := [.tmp 2]) Try.func50 rfl Try.ntmps50 Try.results50 rfl ?_
 have hs := St.start hO
 refine Wp_seq ?_
 refine Wp_region ?_
 refine Rg_op rfl (op_assign (v := (Value.slice none 0 0)) rfl ?_)
 refine Rg_nil ?_
 refine Wp_seq ?_
 refine Wp_seq ?_
 refine Wp_region ?_
 refine Rg_op rfl (op_move (v := (Value.slice a_s s.length c_s)) rfl ?_)
 refine Rg_op rfl (op_eqnil Try.underlying33 rfl rfl ?_)
 refine Rg_nil ?_
 rcases a_s with _ | ad1
 ·
  have hnil2 := (f_s.nil rfl).1
  refine Wp_cond_t rfl ?_
  refine Wp_seq ?_
  clear f_s
  refine Wp_region ?_
  refine Rg_op rfl (op_assign (v := (Value.slice none 0 0)) rfl ?_)
  refine Rg_nil ?_
  refine Wp_ret ?_
  refine ⟨_, (show Closes [] _ _ from rfl), [(Value.slice none 0 0)], ⟨rfl, trivial⟩, hs.ext, ?_⟩
  exact OkG.mkNil (by simp [ck, hnil2] at hm; first | exact hm | (subst hm; simp [hnil2]) | simpa using hm)
 ·
  refine Wp_cond_f rfl ?_
  refine Wp_skip ?_
  refine Wp_seq ?_
  refine Wp_region ?_
  refine Rg_op rfl (op_buildSlice (cs := []) (parts := []) ty33 ty22 hs (by decide) rfl ?_)
  intro b3 w4 hx7 p5 hs6
  replace f_s := f_s.step p5; clear p5
  refine Rg_op rfl (op_move (v := (Value.slice (some ad1) s.length c_s)) rfl ?_)
  have f9 := Gs.of_cells (p := (rSl (rInt .i64))) (e := 22) (bl := b3) (c := 0) (w := w4) (O := ks [(some b3, Obj.cells [].toArray 22)] O) (show Els (rSl (rInt .i64)) _ _ [] [] from Els.nil) rfl (le_lit rfl)
  replace hm := ck_some hm; obtain ⟨hc10, hm⟩ := hm
  obtain ⟨ns11, he12, hr13⟩ := f_s.src
  refine Rg_op rfl (op_append (q := (rSl (rInt .i64))) (i := 0) (xs := ([] : List (List Int))) (ys := s) (news := ns11) ty33 ty22 rfl (by decide) hs6 rfl rfl f9 rfl hr13 he12 hc10 (by have := hc10; simp only [maxLen]; omega) ?_)
  intro a17 c18 k19 o20 w14 p15 hs16 f21
  replace f_s := f_s.step p15; clear p15 hs6
  refine Rg_op rfl (op_assign (v := (Value.slice a17 (([] : List (List Int)) ++ s).length c18)) rfl ?_)
  refine Rg_nil ?_
  refine Wp_ret ?_
  refine ⟨_, (show Closes [] _ _ from rfl), [(Value.slice a17 (([] : List (List Int)) ++ s).length c18)], ⟨rfl, trivial⟩, hs16.ext, ?_⟩
  exact OkG.mk (i := 0) hs16 rfl f21 (Option.some.inj hm)
end Go.Fx



set_option linter.unusedVariables false
set_option linter.unusedSimpArgs false
set_option maxRecDepth 100000
set_option maxHeartbeats 0
namespace Go.Fx
open Go Go.RowKit Go.Proofs
def m52_vector_least_1 (b : List Int) (fv0_ : List Int) : Option Bool :=
 (m32_vector_below b fv0_).bind fun below_1 =>
 some below_1

theorem c52_vector_least_1 {w : World} {O : List Nat} {b : List Int} {fv0_ : List Int} {a_b : Option Addr} {c_b : Nat} {p_fv0_ : Addr} (hO : ∀ k ∈ O, k < w.heap.size) (f_b : SlR (rInt .i64) w O a_b c_b b) (f_fv0_ : PtR (rSl (rInt .i64)) w O p_fv0_ fv0_) {x : Bool} (hm : m52_vector_least_1 b fv0_ = some x) :
  Ok Try.prog 52 [(Value.slice a_b b.length c_b), (Value.pointer (some p_fv0_))] w O vB x := by
 unfold m52_vector_least_1 at hm
 refine Fn_of_Wp (n := 7) (xs := [.tmp 3]) Try.func52 rfl Try.ntmps52 Try.results52 rfl ?_
 have hs := St.start hO
 refine Wp_seq ?_
 refine Wp_region ?_
 refine Rg_op rfl (op_assign (v := (Value.bool false)) rfl ?_)
 refine Rg_nil ?_
 refine Wp_seq ?_
 refine Wp_region ?_
 refine Rg_op rfl (op_move (v := (Value.slice a_b b.length c_b)) rfl ?_)
 refine Rg_op rfl (op_loadP ty22 rfl f_fv0_ rfl ?_)
 intro v1 h2
 obtain ⟨a_y3, c_y3, rfl, f_y3⟩ := un_sl h2
 replace hm := bd hm; obtain ⟨below_1, hv4, hm⟩ := hm
 refine Rg_op rfl (op_call Try.call32 (c32_vector_below (a := b) (b := fv0_) hs.ltw f_b f_y3 hv4) rfl ?_)
 rintro v5 w6 ⟨hx7, h8⟩
 have hs9 := hs.call hx7
 have p10 := Step.ext (O := ks [] O) hx7
 clear hx7
 replace f_b := f_b.step p10; replace f_fv0_ := f_fv0_.step p10; replace f_y3 := f_y3.step p10; clear p10
 obtain rfl := h8
 refine Rg_op rfl (op_assign (v := (Value.bool below_1)) rfl ?_)
 refine Rg_nil ?_
 refine Wp_ret ?_
 have hz := step_all hs9
 replace f_b := f_b.step hz; replace f_fv0_ := f_fv0_.step hz; replace f_y3 := f_y3.step hz
 refine ⟨_, (show Closes [] _ _ from rfl), [(Value.bool below_1)], ⟨rfl, trivial⟩, hs9.ext, ?_⟩
 exact Vr.eq (a := vB) (x := below_1) rfl (Option.some.inj hm)

end Go.Fx



set_option linter.unusedVariables false
set_option linter.unusedSimpArgs false
set_option maxRecDepth 100000
set_option maxHeartbeats 0
namespace Go.Fx
open Go Go.RowKit Go.Proofs
def m37_vector_least_B0 (sorted_1 : List (List Int)) (sf57 : (List (List Int)) → Int → Option (List (List Int))) (x_1 : List (List Int)) (v_1 : Int) : Option (List (List Int)) :=
 bif (decide (v_1 < (sorted_1.length : Int))) then
  ck ((0 : Int) ≤ v_1 ∧ v_1 < (sorted_1.length : Int)) <|
  (m42_slices_ContainsFuncint_int_ x_1 (some (fun x86 => m52_vector_least_1 x86 (sorted_1.getD v_1.toNat default)))).bind fun containsfunc_1 =>
  bif (!containsfunc_1) then
   ck ((x_1.length + [(sorted_1.getD v_1.toNat default)].length) * 24 ≤ 140737488355328) <|
   sf57 (x_1 ++ [(sorted_1.getD v_1.toNat default)]) (IntKind.wrap .i64 (v_1 + 1))
  else
   sf57 x_1 (IntKind.wrap .i64 (v_1 + 1))
 else
  some x_1

def m37_vector_least (l : List (List Int)) : Option (List (List Int)) :=
 (m50_slices_Cloneint_int_ l).bind fun clone_1 =>
 (sortM (fun x15 x16 => m34_slices_Compareint_int_ x15 x16) clone_1).bind fun sorted_1 =>
 ck (clone_1.length < 4611686018427387904) <|
 loop2 (m37_vector_least_B0 sorted_1) (((sorted_1.length : Int) - 0).toNat + 1) ([] : List (List Int)) 0

theorem g37_vector_least {w : World} {O : List Nat} {l : List (List Int)} {a_l : Option Addr} {c_l : Nat} (hO : ∀ k ∈ O, k < w.heap.size) (f_l : SlR (rSl (rInt .i64)) w O a_l c_l l) {x : (List (List Int))} (hm : m37_vector_least l = some x) :
  OkG Try.prog 37 [(Value.slice a_l l.length c_l)] w O (rSl (rInt .i64)) 22 x := by
 unfold m37_vector_least at hm
 refine Fn_of_Wp (n := 25) (xs := [.tmp 2]) Try.func37 rfl Try.ntmps37 Try.results37 rfl ?_
 have hs := St.start hO
 refine Wp_seq ?_
 refine Wp_region ?_
 refine Rg_op rfl (op_assign (v := (Value.slice none 0 0)) rfl ?_)
 refine Rg_nil ?_
 refine Wp_seq ?_
 refine Wp_region ?_
 refine Rg_op rfl (op_move (v := (Value.slice a_l l.length c_l)) rfl ?_)
 replace hm := bd hm; obtain ⟨clone_1, hv1, hm⟩ := hm
 refine Rg_op rfl (op_call Try.call50 (g50_slices_Cloneint_int_ (s := l) hs.ltw f_l hv1) rfl ?_)
 rintro _ w3 ⟨hx4, a7, c8, k9, o10, rfl, hk11, f12⟩
 obtain ⟨hs6, p13⟩ := hs.callG (o := o10) hx4 hk11
 rw [← ks_cons (o := o10)] at f12
 replace f_l := f_l.step p13; clear p13
 refine Rg_op rfl (op_assign (v := (Value.slice a7 clone_1.length c8)) rfl ?_)
 refine Rg_nil ?_
 refine Wp_seq ?_
 clear f_l
 refine Wp_region ?_
 refine Rg_op rfl (op_move (v := (Value.slice a7 clone_1.length c8)) rfl ?_)
 have F17 : CallsTo2 Try.prog w3 (ks [(k9, o10)] O) (Value.func (.func 34) #[] #[]) (vC (rSl (rInt .i64))) (vC (rSl (rInt .i64))) (vI .i64) (fun x15 x16 => m34_slices_Compareint_int_ x15 x16) := by
  intro w18 O19 st20 hO21 v24 v25 x15 x16 y22 h26 h27 hy23
  obtain ⟨a_y28, c_y28, rfl, f_y28⟩ := un_sl h26
  obtain ⟨a_y29, c_y29, rfl, f_y29⟩ := un_sl h27
  exact ⟨34, #[], #[], rfl, Try.call34, c34_slices_Compareint_int_ (s1_ := x15) (s2_ := x16) hO21 f_y28 f_y29 hy23⟩
 replace hm := bd hm; obtain ⟨sorted_1, hv30, hm⟩ := hm
 replace hm := ck_some hm; obtain ⟨hc31, hm⟩ := hm
 have F39 : CallsTo2 Try.prog w3 (ks [(k9, o10)] O) (Value.func (.func 34) #[] #[]) (vC (rSl (rInt .i64))) (vC (rSl (rInt .i64))) (vI .i64) (fun x37 x38 => m34_slices_Compareint_int_ x37 x38) := by
  intro w40 O41 st42 hO43 v46 v47 x37 x38 y44 h48 h49 hy45
  obtain ⟨a_y50, c_y50, rfl, f_y50⟩ := un_sl h48
  obtain ⟨a_y51, c_y51, rfl, f_y51⟩ := un_sl h49
  exact ⟨34, #[], #[], rfl, Try.call34, c34_slices_Compareint_int_ (s1_ := x37) (s2_ := x38) hO43 f_y50 f_y51 hy45⟩
 refine Rg_op rfl (op_sortG (q := (rSl (rInt .i64))) (i := 0) (caps := #[]) sortL51 rfl Try.call51 rfl Try.call34 hs6 rfl f12 F17 hv30 hc31 rfl ?_)
 intro w32 o33 hs34 p35 f36
 replace F17 := F17.step p35; replace F39 := F39.step p35; clear p35 hs6
 refine Rg_nil ?_
 refine Wp_seq ?_
 refine Wp_seq ?_
 clear F17 F39
 refine Wp_region ?_
 refine Rg_op rfl (op_move (v := (Value.slice a7 sorted_1.length c8)) (eqlen rfl (show clone_1.length = sorted_1.length from by rw [sortM_len hv30])) ?_)
 refine Rg_op rfl (op_len Try.underlying33 rfl ?_)
 have rl52 := inK_lenG f36
 refine Rg_op rfl (op_move (v := (Value.int .i64 0)) rfl ?_)
 refine Rg_nil ?_
 refine Wp_block ?_
 refine Wp_reset [] [(2, (Value.slice none 0 0)), (9, (Value.slice a7 sorted_1.length c8)), (10, (Value.int .i64 (sorted_1.length : Int))), (11, (Value.int .i64 0))] rfl ⟨rfl, rfl, rfl, rfl, trivial⟩ fun ξ56 => ?_
 have hs61 := hs34.ghost (Obj.cells #[] 22)
 refine Wp_loopM [2, 4, 11, 12, 13, 14, 15, 16, 17, 18, 19, 20, 21, 22, 23] (fun m fr w' => ∃ (x_1 : List (List Int)) (v_1 : Int) (a_g54 : Option Addr) (c_g54 : Nat) (k_g54 : Option Nat) (o_g54 : Obj) (Ebs : Ents), Ebs = [(k_g54, o_g54), (k9, o33)] ∧ fr [] [(2, (Value.slice a_g54 x_1.length c_g54)), (11, (Value.int .i64 v_1))] ∧ Step (ks [(none, (Obj.cells #[] 22)), (k9, o33)] O) w32 (ks Ebs O) w' ∧ St ⟨w, [], []⟩ O w' Ebs ∧ Gs (rSl (rInt .i64)) 22 w' (ks Ebs O) a_g54 c_g54 x_1 k_g54 o_g54 ∧ InK .i64 v_1 ∧ loop2 (m37_vector_least_B0 sorted_1) m x_1 v_1 = some x) (((sorted_1.length : Int) - 0).toNat + 1) ⟨([] : List (List Int)), 0, none, 0, none, (Obj.cells #[] 22), _, rfl, ⟨Out.refl _ _, rfl, rfl, rfl, trivial⟩, Step.refl _ _, hs61, Gs.nil_, (show InK .i64 0 from by decide), hm⟩ ?_ ?_
 · rintro _ _ ⟨_, _, _, _, _, _, _, _, _, _, _, _, _, hm⟩; exact loop2_z hm
 ·
  rintro m60 K59 hK59 ρ67 w63 ⟨x_1, v_1, a_g54, c_g54, k_g54, o_g54, Ebs, hEbs, hfr66, hst65, hs64, f_g54, r_y55, hm⟩
  obtain ⟨sf57, hsf58, hm⟩ := loop2_s hm; unfold m37_vector_least_B0 at hm
  subst hEbs; rw [hfr66.eq]; clear hfr66
  replace f36 := f36.step hst65
  have ch68 := hst65
  refine Wp_seq ?_
  refine Wp_region ?_
  refine Rg_op rfl (op_lss rfl rfl ?_)
  refine Rg_nil ?_
  refine Wp_seq ?_
  refine Wp_cond rfl (fun hc69 => ?_) (fun hc69 => ?_)
  ·
   replace hm := bif_t hm hc69
   refine Wp_skip ?_
   refine Wp_seq ?_
   refine Wp_block ?_
   refine Wp_seq ?_
   refine Wp_region ?_
   replace hm := ck_some hm; obtain ⟨hc70, hm⟩ := hm
   refine Rg_op rfl (op_indexAddrG ty33 ty22 rfl rfl f36 hc70 ?_)
   rintro b71 rfl rfl
   refine Rg_op rfl (op_loadG (i := 1) ty22 rfl hs64 rfl rfl f36 hc70 ?_)
   intro v72 h73
   obtain ⟨a_y74, c_y74, rfl, f_y74⟩ := un_sl h73
   refine Rg_op rfl (op_alloc ty22 hs64 ?_)
   intro b75 w76 _ p77 hs78
   replace f36 := f36.step p77; replace f_g54 := f_g54.step p77; replace f_y74 := f_y74.step p77; replace ch68 := ch68.trans p77; clear p77 hs64
   refine Rg_op_ (op_store (cs := [(Value.slice none 0 0)]) (vs := [(Value.slice a_y74 (sorted_1.getD v_1.toNat default).length c_y74)]) (cs' := [(Value.slice a_y74 (sorted_1.getD v_1.toNat default).length c_y74)]) (bs' := [(some b75, Obj.cells [(Value.slice a_y74 (sorted_1.getD v_1.toNat default).length c_y74)].toArray 22), (k_g54, o_g54), (some b71, o33)]) (i := 0) ty22 hs78 rfl rfl rfl rfl rfl (le_lit rfl) rfl rfl rfl ?_)
   intro w80 p81 hs82
   replace f36 := f36.step p81; replace f_g54 := f_g54.step p81; replace f_y74 := f_y74.step p81; replace ch68 := ch68.trans p81; clear p81 hs78
   refine Rg_nil ?_
   refine Wp_seq ?_
   refine Wp_region ?_
   refine Rg_op rfl (op_move (v := (Value.slice a_g54 x_1.length c_g54)) rfl ?_)
   obtain ⟨hs84, p85, f83⟩ := St.publishP (p := (rSl (rInt .i64))) (i := 0) (x := (sorted_1.getD v_1.toNat default)) hs82 rfl (mk_sl f_y74)
   replace f36 := f36.step p85; replace f_g54 := f_g54.step p85; replace f_y74 := f_y74.step p85; replace ch68 := ch68.trans p85; clear p85 hs82
   refine Rg_op rfl (op_makeFunc' (a' := []) (c' := [(Value.pointer (some (⟨b75, 0, none⟩ : Addr)))]) rfl rfl ?_)
   have F87 : CallsTo1 Try.prog w80 (ks [(k_g54, o_g54), (some b71, o33)] O) (Value.func (.func 52) #[] #[(Value.pointer (some (⟨b75, 0, none⟩ : Addr)))]) (vC (rSl (rInt .i64))) vB (fun x86 => m52_vector_least_1 x86 (sorted_1.getD v_1.toNat default)) := by
    intro w88 O89 st90 hO91 v94 x86 y92 h95 hy93
    obtain ⟨a_y96, c_y96, rfl, f_y96⟩ := un_sl h95
    exact ⟨52, #[], #[(Value.pointer (some (⟨b75, 0, none⟩ : Addr)))], rfl, Try.call52, c52_vector_least_1 (b := x86) hO91 f_y96 (f83.step st90) hy93⟩
   obtain ⟨hs97, p98, f99⟩ := Gs.publish (i := 0) hs84 rfl f_g54
   replace hm := bd hm; obtain ⟨containsfunc_1, hv100, hm⟩ := hm
   refine Rg_op rfl (op_call Try.call42 (c42_slices_ContainsFuncint_int_ (s := x_1) (f := (some (fun x86 => m52_vector_least_1 x86 (sorted_1.getD v_1.toNat default)))) hs97.ltw f99 ((CallsO1.some_ F87).step p98) hv100) rfl ?_)
   rintro v101 w102 ⟨hx103, h104⟩
   have hs105 := hs84.call hx103
   have p106 := Step.ext (O := ks [(k_g54, o_g54), (some b71, o33)] O) hx103
   clear hx103
   replace f36 := f36.step p106; replace f_g54 := f_g54.step p106; replace f_y74 := f_y74.step p106; replace f83 := f83.step p106; replace F87 := F87.step p106; replace ch68 := ch68.trans p106; clear p106 hs84
   obtain rfl := h104
   refine Rg_op rfl (op_not rfl ?_)
   refine Rg_nil ?_
   refine Wp_cond rfl (fun hc108 => ?_) (fun hc108 => ?_)
   ·
    replace hm := bif_t hm hc108
    clear f_y74 F87
    refine Wp_region ?_
    refine Rg_op rfl (op_move (v := (Value.slice a_g54 x_1.length c_g54)) rfl ?_)
    refine Rg_op rfl (op_loadP ty22 rfl f83 rfl ?_)
    intro v109 h110
    obtain ⟨a_y111, c_y111, rfl, f_y111⟩ := un_sl h110
    refine Rg_op rfl (op_buildSlice (cs := [(Value.slice a_y111 (sorted_1.getD v_1.toNat default).length c_y111)]) (parts := [(0, .tmp 20)]) ty33 ty22 hs105 (by decide) rfl ?_)
    intro b112 w113 hx116 p114 hs115
    replace f36 := f36.step p114; replace f_g54 := f_g54.step p114; replace f83 := f83.step p114; replace f_y111 := f_y111.step p114; replace ch68 := ch68.trans p114; clear p114 hs105
    replace hm := ck_some hm; obtain ⟨hc118, hm⟩ := hm
    refine Rg_op rfl (op_append (q := (rSl (rInt .i64))) (i := 1) (xs := x_1) (ys := [(sorted_1.getD v_1.toNat default)]) (news := [(Value.slice a_y111 (sorted_1.getD v_1.toNat default).length c_y111)]) ty33 ty22 rfl (by decide) hs115 rfl rfl f_g54 rfl (Src.owned' (len := 1) (hs115.get (i := 0) rfl) rfl) (show Els (rSl (rInt .i64)) _ _ [(Value.slice a_y111 (sorted_1.getD v_1.toNat default).length c_y111)] [(sorted_1.getD v_1.toNat default)] from ⟨_, _, rfl, (mk_sl f_y111), Els.nil⟩) hc118 (by have := hc118; simp only [maxLen]; omega) ?_)
    intro a122 c123 k124 o125 w119 p120 hs121 f126
    replace f36 := f36.step p120; replace f83 := f83.step p120; replace f_y111 := f_y111.step p120; replace ch68 := ch68.trans p120; clear p120 hs115
    have hs127 := hs121.drop 0
    replace f36 := f36.step (hs121.dropS 0)
    replace f83 := f83.step (hs121.dropS 0)
    replace f_y111 := f_y111.step (hs121.dropS 0)
    replace f126 := f126.step (hs121.dropS 0)
    replace ch68 := ch68.trans (hs121.dropS 0); clear hs121
    refine Rg_op rfl (op_assign (v := (Value.slice a122 (x_1 ++ [(sorted_1.getD v_1.toNat default)]).length c123)) rfl ?_)
    refine Rg_nil ?_
    clear f83 f_y111
    refine Wp_region ?_
    refine Rg_op rfl (op_addw rfl rfl ?_)
    refine Rg_op rfl (op_move (v := (Value.int .i64 (IntKind.wrap .i64 (v_1 + 1)))) rfl ?_)
    refine Rg_nil ?_
    exact hK59 _ _ ⟨(x_1 ++ [(sorted_1.getD v_1.toNat default)]), (IntKind.wrap .i64 (v_1 + 1)), a122, c123, k124, o125, _, rfl, ⟨(by repeat (first | with_reducible exact Out.refl _ _ | refine Out.upd ?_ rfl | refine Out.updL ?_ rfl | refine Out.mix' ?_ rfl | exact Out.refl _ _)), rfl, rfl, rfl, trivial⟩, ch68, hs127, f126, (inK_wrap .i64 _), jnE2 hsf58 hm⟩
   ·
    replace hm := bif_f hm hc108
    refine Wp_skip ?_
    clear f_y74 f83 F87
    refine Wp_region ?_
    refine Rg_op rfl (op_addw rfl rfl ?_)
    refine Rg_op rfl (op_move (v := (Value.int .i64 (IntKind.wrap .i64 (v_1 + 1)))) rfl ?_)
    refine Rg_nil ?_
    exact hK59 _ _ ⟨x_1, (IntKind.wrap .i64 (v_1 + 1)), a_g54, c_g54, k_g54, o_g54, _, rfl, ⟨(by repeat (first | with_reducible exact Out.refl _ _ | refine Out.upd ?_ rfl | refine Out.updL ?_ rfl | refine Out.mix' ?_ rfl | exact Out.refl _ _)), rfl, rfl, rfl, trivial⟩, ch68, hs105, f_g54, (inK_wrap .i64 _), jnE2 hsf58 hm⟩
  ·
   replace hm := bif_f hm hc69
   refine Wp_exit ?_
   refine Wp_seq ?_
   obtain ⟨hs128, p129⟩ := hs64.sub (bs' := [(k_g54, o_g54)]) (.cons_cons _ (.cons _ List.Sublist.slnil))
   clear f36
   replace f_g54 := f_g54.step p129; replace ch68 := ch68.trans p129; clear p129 hs64
   refine Wp_region ?_
   refine Rg_op rfl (op_move (v := (Value.slice a_g54 x_1.length c_g54)) rfl ?_)
   refine Rg_op rfl (op_assign (v := (Value.slice a_g54 x_1.length c_g54)) rfl ?_)
   refine Rg_nil ?_
   refine Wp_ret ?_
   refine ⟨_, (show Closes [] _ _ from rfl), [(Value.slice a_g54 x_1.length c_g54)], ⟨rfl, trivial⟩, hs128.ext, ?_⟩
   exact OkG.mk (i := 0) hs128 rfl f_g54 (Option.some.inj hm)
end Go.Fx



set_option linter.unusedVariables false
set_option linter.unusedSimpArgs false
set_option maxRecDepth 100000
set_option maxHeartbeats 0
namespace Go.Fx
open Go Go.RowKit Go.Proofs
def m21_vector_Least (l : List (List Int)) : Option ((List (List Int)) × Int) :=
 (m36_vector_alike l none).bind fun alike_1 =>
 bif (!alike_1) then
  some (([] : List (List Int)), 60)
 else
  bif (decide (4096 < (l.length : Int))) then
   some (([] : List (List Int)), 2)
  else
   (m37_vector_least l).bind fun least_1 =>
   some (least_1, 0)

theorem c21_vector_Least {w : World} {O : List Nat} {l : List (List Int)} {a_l : Option Addr} {c_l : Nat} (hO : ∀ k ∈ O, k < w.heap.size) (f_l : SlR (rSl (rInt .i64)) w O a_l c_l l) {x : (List (List Int)) × Int} (hm : m21_vector_Least l = some x) :
  Ok Try.prog 21 [(Value.slice a_l l.length c_l)] w O (vT2 (vC (rSl (rSl (rInt .i64)))) (vI .i64)) x := by
 unfold m21_vector_Least at hm
 refine Fn_of_Wp (n := 12) (xs := [.tmp 2, .tmp 3]) Try.func21 rfl Try.ntmps21 Try.results21 rfl ?_
 have hs := St.start hO
 refine Wp_seq ?_
 refine Wp_region ?_
 refine Rg_op rfl (op_assign (v := (Value.slice none 0 0)) rfl ?_)
 refine Rg_op rfl (op_assign (v := (Value.int .i64 0)) rfl ?_)
 refine Rg_nil ?_
 refine Wp_seq ?_
 refine Wp_seq ?_
 refine Wp_region ?_
 refine Rg_op rfl (op_move (v := (Value.slice a_l l.length c_l)) rfl ?_)
 replace hm := bd hm; obtain ⟨alike_1, hv1, hm⟩ := hm
 refine Rg_op rfl (op_call Try.call36 (c36_vector_alike (l := l) (ask := none) hs.ltw f_l CallsO1.nil_ hv1) rfl ?_)
 rintro v2 w3 ⟨hx4, h5⟩
 have hs6 := hs.call hx4
 have p7 := Step.ext (O := ks [] O) hx4
 clear hx4
 replace f_l := f_l.step p7; clear p7
 obtain rfl := h5
 refine Rg_op rfl (op_not rfl ?_)
 refine Rg_nil ?_
 refine Wp_cond rfl (fun hc9 => ?_) (fun hc9 => ?_)
 ·
  replace hm := bif_t hm hc9
  refine Wp_seq ?_
  clear f_l
  refine Wp_region ?_
  refine Rg_op rfl (op_assign (v := (Value.slice none 0 0)) rfl ?_)
  refine Rg_op rfl (op_assign (v := (Value.int .i64 60)) rfl ?_)
  refine Rg_nil ?_
  refine Wp_ret ?_
  have hz := step_all hs6
  refine ⟨_, (show Closes [] _ _ from rfl), [(Value.slice none 0 0), (Value.int .i64 60)], ⟨rfl, rfl, trivial⟩, hs6.ext, ?_⟩
  exact Vr.eq (a := (vT2 (vC (rSl (rSl (rInt .i64)))) (vI .i64))) (x := (([] : List (List Int)), 60)) (mkT2 (mkC (mk_sl SlR.nil_)) ⟨rfl, (show InK .i64 60 from by decide)⟩) (Option.some.inj hm)
 ·
  replace hm := bif_f hm hc9
  refine Wp_skip ?_
  refine Wp_seq ?_
  refine Wp_seq ?_
  refine Wp_region ?_
  refine Rg_op rfl (op_move (v := (Value.slice a_l l.length c_l)) rfl ?_)
  refine Rg_op rfl (op_len Try.underlying33 rfl ?_)
  have rl10 := inK_len f_l
  refine Rg_op rfl (op_gtr rfl rfl ?_)
  refine Rg_nil ?_
  refine Wp_cond rfl (fun hc11 => ?_) (fun hc11 => ?_)
  ·
   replace hm := bif_t hm hc11
   refine Wp_seq ?_
   clear f_l
   refine Wp_region ?_
   refine Rg_op rfl (op_assign (v := (Value.slice none 0 0)) rfl ?_)
   refine Rg_op rfl (op_assign (v := (Value.int .i64 2)) rfl ?_)
   refine Rg_nil ?_
   refine Wp_ret ?_
   have hz := step_all hs6
   refine ⟨_, (show Closes [] _ _ from rfl), [(Value.slice none 0 0), (Value.int .i64 2)], ⟨rfl, rfl, trivial⟩, hs6.ext, ?_⟩
   exact Vr.eq (a := (vT2 (vC (rSl (rSl (rInt .i64)))) (vI .i64))) (x := (([] : List (List Int)), 2)) (mkT2 (mkC (mk_sl SlR.nil_)) ⟨rfl, (show InK .i64 2 from by decide)⟩) (Option.some.inj hm)
  ·
   replace hm := bif_f hm hc11
   refine Wp_skip ?_
   refine Wp_seq ?_
   refine Wp_region ?_
   refine Rg_op rfl (op_move (v := (Value.slice a_l l.length c_l)) rfl ?_)
   replace hm := bd hm; obtain ⟨least_1, hv12, hm⟩ := hm
   refine Rg_op rfl (op_call Try.call37 (g37_vector_least (l := l) hs6.ltw f_l hv12) rfl ?_)
   rintro _ w14 ⟨hx15, a18, c19, k20, o21, rfl, hk22, f23⟩
   obtain ⟨hs17, p24⟩ := hs6.callG (o := o21) hx15 hk22
   rw [← ks_cons (o := o21)] at f23
   replace f_l := f_l.step p24; clear p24 hs6
   refine Rg_op rfl (op_assign (v := (Value.slice a18 least_1.length c19)) rfl ?_)
   refine Rg_op rfl (op_assign (v := (Value.int .i64 0)) rfl ?_)
   refine Rg_nil ?_
   refine Wp_ret ?_
   obtain ⟨hs27, p28, f26⟩ := Gs.publish (i := 0) hs17 rfl f23
   replace f_l := f_l.step p28; clear p28 hs17
   have hz := step_all hs27
   replace f_l := f_l.step hz; replace f26 := f26.step hz
   refine ⟨_, (show Closes [] _ _ from rfl), [(Value.slice a18 least_1.length c19), (Value.int .i64 0)], ⟨rfl, rfl, trivial⟩, hs27.ext, ?_⟩
   exact Vr.eq (a := (vT2 (vC (rSl (rSl (rInt .i64)))) (vI .i64))) (x := (least_1, 0)) (mkT2 (mkC (mk_sl f26)) ⟨rfl, (show InK .i64 0 from by decide)⟩) (Option.some.inj hm)

end Go.Fx



set_option linter.unusedVariables false
set_option linter.unusedSimpArgs false
set_option maxRecDepth 100000
set_option maxHeartbeats 0
namespace Go.Fx
open Go Go.RowKit Go.Proofs
def m55_slices_Growint_int_ (n : Int) : Option (List (List Int)) :=
 bif (decide (n < 0)) then
  none
 else
  bif (decide (0 < (IntKind.wrap .i64 (n - (IntKind.wrap .i64 (0 - 0)))))) then
   ck (0 < (IntKind.wrap .i64 (n - (IntKind.wrap .i64 (0 - 0))))) <|
   ck ((IntKind.wrap .i64 (n - (IntKind.wrap .i64 (0 - 0)))) * 24 ≤ 281474976710656) <|
   some ([] : List (List Int))
  else
   some ([] : List (List Int))

theorem g55_slices_Growint_int_ {w : World} {O : List Nat} {n : Int} (hO : ∀ k ∈ O, k < w.heap.size) (r_n : InK .i64 n) {x : (List (List Int))} (hm : m55_slices_Growint_int_ n = some x) :
  OkG Try.prog 55 [(Value.slice none 0 0), (Value.int .i64 n)] w O (rSl (rInt .i64)) 22 x := by
 unfold m55_slices_Growint_int_ at hm
 refine Fn_of_Wp (n := 27) (xs := [.tmp 4]) Try.func55 rfl Try.ntmps55 Try.results55 rfl ?_
 have hs := St.start hO
 refine Wp_seq ?_
 refine Wp_region ?_
 refine Rg_op rfl (op_assign (v := (Value.slice none 0 0)) rfl ?_)
 refine Rg_nil ?_
 refine Wp_seq ?_
 refine Wp_seq ?_
 refine Wp_region ?_
 refine Rg_op rfl (op_move (v := (Value.int .i64 n)) rfl ?_)
 refine Rg_op rfl (op_lss rfl rfl ?_)
 refine Rg_nil ?_
 refine Wp_cond rfl (fun hc1 => ?_) (fun hc1 => ?_)
 ·
  replace hm := bif_t hm hc1
  refine Wp_region ?_
  cases hm
 ·
  replace hm := bif_f hm hc1
  refine Wp_skip ?_
  refine Wp_seq ?_
  refine Wp_seq ?_
  refine Wp_region ?_
  refine Rg_op rfl (op_move (v := (Value.int .i64 n)) rfl ?_)
  refine Rg_op rfl (op_move (v := (Value.slice none 0 0)) rfl ?_)
  refine Rg_op rfl (op_cap0 Try.underlying33 rfl ?_)
  refine Rg_op rfl (op_move (v := (Value.slice none 0 0)) rfl ?_)
  refine Rg_op rfl (op_len Try.underlying33 rfl ?_)
  refine Rg_op rfl (op_subw rfl rfl ?_)
  refine Rg_op rfl (op_subw rfl rfl ?_)
  refine Rg_op rfl (op_assign (v := (Value.int .i64 (IntKind.wrap .i64 (n - (IntKind.wrap .i64 (0 - 0)))))) rfl ?_)
  refine Rg_nil ?_
  refine Wp_seq ?_
  refine Wp_region ?_
  refine Rg_op rfl (op_move (v := (Value.int .i64 (IntKind.wrap .i64 (n - (IntKind.wrap .i64 (0 - 0)))))) rfl ?_)
  refine Rg_op rfl (op_gtr rfl rfl ?_)
  refine Rg_nil ?_
  refine Wp_cond rfl (fun hc2 => ?_) (fun hc2 => ?_)
  ·
   replace hm := bif_t hm hc2
   refine Wp_region ?_
   refine Rg_op rfl (op_move (v := (Value.slice none 0 0)) rfl ?_)
   refine Rg_op rfl (op_move (v := (Value.slice none 0 0)) rfl ?_)
   refine Rg_op rfl (op_cap0 Try.underlying33 rfl ?_)
   refine Rg_op rfl (op_sliceNil ty33 ty22 rfl (bndI rfl (by omega)) ?_)
   refine Rg_op rfl (op_move (v := (Value.int .i64 (IntKind.wrap .i64 (n - (IntKind.wrap .i64 (0 - 0)))))) rfl ?_)
   replace hm := ck_some hm; obtain ⟨hc3, hm⟩ := hm
   replace hm := ck_some hm; obtain ⟨hc4, hm⟩ := hm
   refine Rg_op rfl (op_appendZ (q := (rSl (rInt .i64))) ty33 ty22 rfl Try.underlying3 hs rfl rfl (inK_wrap .i64 _) hc3 hc4 ?_)
   intro b5 c6 o7 w8 hc12 p9 hs10 f11
   clear p9
   refine Rg_op rfl (op_move (v := (Value.slice none 0 0)) rfl ?_)
   refine Rg_op rfl (op_len Try.underlying33 rfl ?_)
   refine Rg_op rfl (op_slice0 ty33 ty22 rfl (bndI rfl (by omega)) ?_)
   refine Rg_op rfl (op_assign (v := (Value.slice (some ⟨b5, 0, none⟩) ([] : List (List Int)).length c6)) rfl ?_)
   refine Rg_nil ?_
   refine Wp_seq ?_
   refine Wp_region ?_
   refine Rg_op rfl (op_move (v := (Value.slice (some ⟨b5, 0, none⟩) ([] : List (List Int)).length c6)) rfl ?_)
   refine Rg_op rfl (op_assign (v := (Value.slice (some ⟨b5, 0, none⟩) ([] : List (List Int)).length c6)) rfl ?_)
   refine Rg_nil ?_
   refine Wp_ret ?_
   refine ⟨_, (show Closes [] _ _ from rfl), [(Value.slice (some ⟨b5, 0, none⟩) ([] : List (List Int)).length c6)], ⟨rfl, trivial⟩, hs10.ext, ?_⟩
   exact OkG.mk (i := 0) hs10 rfl f11 (Option.some.inj hm)
  ·
   replace hm := bif_f hm hc2
   refine Wp_skip ?_
   refine Wp_seq ?_
   refine Wp_region ?_
   refine Rg_op rfl (op_move (v := (Value.slice none 0 0)) rfl ?_)
   refine Rg_op rfl (op_assign (v := (Value.slice none 0 0)) rfl ?_)
   refine Rg_nil ?_
   refine Wp_ret ?_
   refine ⟨_, (show Closes [] _ _ from rfl), [(Value.slice none 0 0)], ⟨rfl, trivial⟩, hs.ext, ?_⟩
   exact OkG.mkNil (Option.some.inj hm)
end Go.Fx



set_option linter.unusedVariables false
set_option linter.unusedSimpArgs false
set_option maxRecDepth 100000
set_option maxHeartbeats 0
namespace Go.Fx
open Go Go.RowKit Go.Proofs
def m40_slices_Concatint_int__B1 (slices : List (List (List Int))) (sf42 : (List (List Int)) → Int → Option (List (List Int))) (newslice_1 : List (List Int)) (v_2 : Int) : Option (List (List Int)) :=
 bif (decide (v_2 < (slices.length : Int))) then
  ck ((0 : Int) ≤ v_2 ∧ v_2 < (slices.length : Int)) <|
  ck ((newslice_1.length + (slices.getD v_2.toNat default).length) * 24 ≤ 140737488355328) <|
  sf42 (newslice_1 ++ (slices.getD v_2.toNat default)) (IntKind.wrap .i64 (v_2 + 1))
 else
  some newslice_1

def m40_slices_Concatint_int__B0 (slices : List (List (List Int))) (sf5 : Int → Int → Option (List (List Int))) (size_1 : Int) (v_1 : Int) : Option (List (List Int)) :=
 bif (decide (v_1 < (slices.length : Int))) then
  ck ((0 : Int) ≤ v_1 ∧ v_1 < (slices.length : Int)) <|
  bif (decide ((IntKind.wrap .i64 (size_1 + ((slices.getD v_1.toNat default).length : Int))) < 0)) then
   none
  else
   sf5 (IntKind.wrap .i64 (size_1 + ((slices.getD v_1.toNat default).length : Int))) (IntKind.wrap .i64 (v_1 + 1))
 else
  (m55_slices_Growint_int_ size_1).bind fun grow_1 =>
  loop2 (m40_slices_Concatint_int__B1 slices) (((slices.length : Int) - 0).toNat + 1) grow_1 0

def m40_slices_Concatint_int_ (slices : List (List (List Int))) : Option (List (List Int)) :=
 loop2 (m40_slices_Concatint_int__B0 slices) (((slices.length : Int) - 0).toNat + 1) 0 0

theorem g40_slices_Concatint_int_ {w : World} {O : List Nat} {slices : List (List (List Int))} {a_slices : Option Addr} {c_slices : Nat} (hO : ∀ k ∈ O, k < w.heap.size) (f_slices : SlR (rSl (rSl (rInt .i64))) w O a_slices c_slices slices) {x : (List (List Int))} (hm : m40_slices_Concatint_int_ slices = some x) :
  OkG Try.prog 40 [(Value.slice a_slices slices.length c_slices)] w O (rSl (rInt .i64)) 22 x := by
 unfold m40_slices_Concatint_int_ at hm
 refine Fn_of_Wp (n := 36) (xs := [.tmp 2]) Try.func40 rfl Try.ntmps40 Try.results40 rfl ?_
 have hs := St.start hO
 refine Wp_seq ?_
 refine Wp_region ?_
 refine Rg_op rfl (op_assign (v := (Value.slice none 0 0)) rfl ?_)
 refine Rg_nil ?_
 refine Wp_seq ?_
 refine Wp_region ?_
 refine Rg_op rfl (op_assign (v := (Value.int .i64 0)) rfl ?_)
 refine Rg_nil ?_
 refine Wp_seq ?_
 refine Wp_seq ?_
 refine Wp_region ?_
 refine Rg_op rfl (op_move (v := (Value.slice a_slices slices.length c_slices)) rfl ?_)
 refine Rg_op rfl (op_len Try.underlying59 rfl ?_)
 have rl1 := inK_len f_slices
 refine Rg_op rfl (op_move (v := (Value.int .i64 0)) rfl ?_)
 refine Rg_nil ?_
 refine Wp_block ?_
 refine Wp_reset [] [(0, (Value.slice a_slices slices.length c_slices)), (3, (Value.int .i64 0)), (9, (Value.slice a_slices slices.length c_slices)), (10, (Value.int .i64 (slices.length : Int))), (11, (Value.int .i64 0))] rfl ⟨rfl, rfl, rfl, rfl, rfl, trivial⟩ fun ξ4 => ?_
 refine Wp_loopM [3, 5, 11, 12, 13, 14, 15, 16, 17, 18, 19, 20, 21, 22] (fun m fr w' => ∃ (size_1 : Int) (v_1 : Int) (Ebs : Ents), Ebs = [] ∧ fr [] [(3, (Value.int .i64 size_1)), (11, (Value.int .i64 v_1))] ∧ Step (ks [] O) w (ks Ebs O) w' ∧ St ⟨w, [], []⟩ O w' Ebs ∧ InK .i64 size_1 ∧ InK .i64 v_1 ∧ loop2 (m40_slices_Concatint_int__B0 slices) m size_1 v_1 = some x) (((slices.length : Int) - 0).toNat + 1) ⟨0, 0, _, rfl, ⟨Out.refl _ _, rfl, rfl, rfl, trivial⟩, Step.refl _ _, hs, (show InK .i64 0 from by decide), (show InK .i64 0 from by decide), hm⟩ ?_ ?_
 · rintro _ _ ⟨_, _, _, _, _, _, _, _, _, hm⟩; exact loop2_z hm
 ·
  rintro m8 K7 hK7 ρ13 w9 ⟨size_1, v_1, Ebs, hEbs, hfr12, hst11, hs10, r_y2, r_y3, hm⟩
  obtain ⟨sf5, hsf6, hm⟩ := loop2_s hm; unfold m40_slices_Concatint_int__B0 at hm
  subst hEbs; rw [hfr12.eq]; clear hfr12
  replace f_slices := f_slices.step hst11
  have ch14 := hst11
  refine Wp_seq ?_
  refine Wp_region ?_
  refine Rg_op rfl (op_lss rfl rfl ?_)
  refine Rg_nil ?_
  refine Wp_seq ?_
  refine Wp_cond rfl (fun hc15 => ?_) (fun hc15 => ?_)
  ·
   replace hm := bif_t hm hc15
   refine Wp_skip ?_
   refine Wp_seq ?_
   refine Wp_block ?_
   refine Wp_seq ?_
   refine Wp_region ?_
   replace hm := ck_some hm; obtain ⟨hc16, hm⟩ := hm
   refine Rg_op rfl (op_indexAddr (q := (rSl (rSl (rInt .i64)))) ty59 ty33 rfl rfl f_slices rfl hc16.1 hc16.2 ?_)
   intro p17 f18
   refine Rg_op rfl (op_loadP ty33 rfl f18 rfl ?_)
   intro v19 h20
   obtain ⟨a_y21, c_y21, rfl, f_y21⟩ := un_sl h20
   refine Rg_op rfl (op_assign (v := (Value.slice a_y21 (slices.getD v_1.toNat default).length c_y21)) rfl ?_)
   refine Rg_nil ?_
   refine Wp_seq ?_
   clear f18
   refine Wp_region ?_
   refine Rg_op rfl (op_move (v := (Value.int .i64 size_1)) rfl ?_)
   refine Rg_op rfl (op_move (v := (Value.slice a_y21 (slices.getD v_1.toNat default).length c_y21)) rfl ?_)
   refine Rg_op rfl (op_len Try.underlying33 rfl ?_)
   have rl22 := inK_len f_y21
   refine Rg_op rfl (op_addw rfl rfl ?_)
   refine Rg_op rfl (op_assign (v := (Value.int .i64 (IntKind.wrap .i64 (size_1 + ((slices.getD v_1.toNat default).length : Int))))) rfl ?_)
   refine Rg_nil ?_
   refine Wp_seq ?_
   clear f_y21
   refine Wp_region ?_
   refine Rg_op rfl (op_move (v := (Value.int .i64 (IntKind.wrap .i64 (size_1 + ((slices.getD v_1.toNat default).length : Int))))) rfl ?_)
   refine Rg_op rfl (op_lss rfl rfl ?_)
   refine Rg_nil ?_
   refine Wp_cond rfl (fun hc23 => ?_) (fun hc23 => ?_)
   ·
    replace hm := bif_t hm hc23
    refine Wp_region ?_
    cases hm
   ·
    replace hm := bif_f hm hc23
    refine Wp_skip ?_
    refine Wp_region ?_
    refine Rg_op rfl (op_addw rfl rfl ?_)
    refine Rg_op rfl (op_move (v := (Value.int .i64 (IntKind.wrap .i64 (v_1 + 1)))) rfl ?_)
    refine Rg_nil ?_
    exact hK7 _ _ ⟨(IntKind.wrap .i64 (size_1 + ((slices.getD v_1.toNat default).length : Int))), (IntKind.wrap .i64 (v_1 + 1)), _, rfl, ⟨(by repeat (first | with_reducible exact Out.refl _ _ | refine Out.upd ?_ rfl | refine Out.updL ?_ rfl | refine Out.mix' ?_ rfl | exact Out.refl _ _)), rfl, rfl, rfl, trivial⟩, ch14, hs10, (inK_wrap .i64 _), (inK_wrap .i64 _), jnE2 hsf6 hm⟩
  ·
   replace hm := bif_f hm hc15
   refine Wp_exit ?_
   refine Wp_seq ?_
   refine Wp_region ?_
   refine Rg_op rfl (op_move (v := (Value.int .i64 size_1)) rfl ?_)
   replace hm := bd hm; obtain ⟨grow_1, hv24, hm⟩ := hm
   refine Rg_op rfl (op_call Try.call55 (g55_slices_Growint_int_ (n := size_1) hs10.ltw r_y2 hv24) rfl ?_)
   rintro _ w26 ⟨hx27, a30, c31, k32, o33, rfl, hk34, f35⟩
   obtain ⟨hs29, p36⟩ := hs10.callG (o := o33) hx27 hk34
   rw [← ks_cons (o := o33)] at f35
   replace f_slices := f_slices.step p36; replace ch14 := ch14.trans p36; clear p36 hs10
   refine Rg_op rfl (op_assign (v := (Value.slice a30 grow_1.length c31)) rfl ?_)
   refine Rg_nil ?_
   refine Wp_seq ?_
   refine Wp_seq ?_
   refine Wp_region ?_
   refine Rg_op rfl (op_move (v := (Value.slice a_slices slices.length c_slices)) rfl ?_)
   refine Rg_op rfl (op_len Try.underlying59 rfl ?_)
   have rl38 := inK_len f_slices
   refine Rg_op rfl (op_move (v := (Value.int .i64 0)) rfl ?_)
   refine Rg_nil ?_
   refine Wp_block ?_
   refine Wp_reset [] [(6, (Value.slice a30 grow_1.length c31)), (25, (Value.slice a_slices slices.length c_slices)), (26, (Value.int .i64 (slices.length : Int))), (27, (Value.int .i64 0))] rfl ⟨rfl, rfl, rfl, rfl, trivial⟩ fun ξ41 => ?_
   refine Wp_loopM [6, 8, 27, 28, 29, 30, 31, 32, 33, 34] (fun m fr w' => ∃ (newslice_1 : List (List Int)) (v_2 : Int) (a_g39 : Option Addr) (c_g39 : Nat) (k_g39 : Option Nat) (o_g39 : Obj) (Ebs : Ents), Ebs = [(k_g39, o_g39)] ∧ fr [] [(6, (Value.slice a_g39 newslice_1.length c_g39)), (27, (Value.int .i64 v_2))] ∧ Step (ks [(k32, o33)] O) w26 (ks Ebs O) w' ∧ St ⟨w, [], []⟩ O w' Ebs ∧ Gs (rSl (rInt .i64)) 22 w' (ks Ebs O) a_g39 c_g39 newslice_1 k_g39 o_g39 ∧ InK .i64 v_2 ∧ loop2 (m40_slices_Concatint_int__B1 slices) m newslice_1 v_2 = some x) (((slices.length : Int) - 0).toNat + 1) ⟨grow_1, 0, a30, c31, k32, o33, _, rfl, ⟨Out.refl _ _, rfl, rfl, rfl, trivial⟩, Step.refl _ _, hs29, f35, (show InK .i64 0 from by decide), hm⟩ ?_ ?_
   · rintro _ _ ⟨_, _, _, _, _, _, _, _, _, _, _, _, _, hm⟩; exact loop2_z hm
   ·
    rintro m45 K44 hK44 ρ50 w46 ⟨newslice_1, v_2, a_g39, c_g39, k_g39, o_g39, Ebs, hEbs, hfr49, hst48, hs47, f_g39, r_y40, hm⟩
    obtain ⟨sf42, hsf43, hm⟩ := loop2_s hm; unfold m40_slices_Concatint_int__B1 at hm
    subst hEbs; rw [hfr49.eq]; clear hfr49
    replace f_slices := f_slices.step hst48; replace f35 := f35.step hst48; replace ch14 := ch14.trans hst48
    have ch51 := hst48
    refine Wp_seq ?_
    clear f35
    refine Wp_region ?_
    refine Rg_op rfl (op_lss rfl rfl ?_)
    refine Rg_nil ?_
    refine Wp_seq ?_
    refine Wp_cond rfl (fun hc52 => ?_) (fun hc52 => ?_)
    ·
     replace hm := bif_t hm hc52
     refine Wp_skip ?_
     refine Wp_seq ?_
     refine Wp_block ?_
     refine Wp_seq ?_
     refine Wp_region ?_
     replace hm := ck_some hm; obtain ⟨hc53, hm⟩ := hm
     refine Rg_op rfl (op_indexAddr (q := (rSl (rSl (rInt .i64)))) ty59 ty33 rfl rfl f_slices rfl hc53.1 hc53.2 ?_)
     intro p54 f55
     refine Rg_op rfl (op_loadP ty33 rfl f55 rfl ?_)
     intro v56 h57
     obtain ⟨a_y58, c_y58, rfl, f_y58⟩ := un_sl h57
     refine Rg_op rfl (op_assign (v := (Value.slice a_y58 (slices.getD v_2.toNat default).length c_y58)) rfl ?_)
     refine Rg_nil ?_
     clear f55
     refine Wp_region ?_
     refine Rg_op rfl (op_move (v := (Value.slice a_g39 newslice_1.length c_g39)) rfl ?_)
     refine Rg_op rfl (op_move (v := (Value.slice a_y58 (slices.getD v_2.toNat default).length c_y58)) rfl ?_)
     replace hm := ck_some hm; obtain ⟨hc59, hm⟩ := hm
     obtain ⟨ns60, he61, hr62⟩ := f_y58.src
     refine Rg_op rfl (op_append (q := (rSl (rInt .i64))) (i := 0) (xs := newslice_1) (ys := (slices.getD v_2.toNat default)) (news := ns60) ty33 ty22 rfl (by decide) hs47 rfl rfl f_g39 rfl hr62 he61 hc59 (by have := hc59; simp only [maxLen]; omega) ?_)
     intro a66 c67 k68 o69 w63 p64 hs65 f70
     replace f_slices := f_slices.step p64; replace f_y58 := f_y58.step p64; replace ch14 := ch14.trans p64; replace ch51 := ch51.trans p64; clear p64 hs47
     refine Rg_op rfl (op_assign (v := (Value.slice a66 (newslice_1 ++ (slices.getD v_2.toNat default)).length c67)) rfl ?_)
     refine Rg_nil ?_
     clear f_y58
     refine Wp_region ?_
     refine Rg_op rfl (op_addw rfl rfl ?_)
     refine Rg_op rfl (op_move (v := (Value.int .i64 (IntKind.wrap .i64 (v_2 + 1)))) rfl ?_)
     refine Rg_nil ?_
     exact hK44 _ _ ⟨(newslice_1 ++ (slices.getD v_2.toNat default)), (IntKind.wrap .i64 (v_2 + 1)), a66, c67, k68, o69, _, rfl, ⟨(by repeat (first | with_reducible exact Out.refl _ _ | refine Out.upd ?_ rfl | refine Out.updL ?_ rfl | refine Out.mix' ?_ rfl | exact Out.refl _ _)), rfl, rfl, rfl, trivial⟩, ch51, hs65, f70, (inK_wrap .i64 _), jnE2 hsf43 hm⟩
    ·
     replace hm := bif_f hm hc52
     refine Wp_exit ?_
     refine Wp_seq ?_
     clear f_slices
     refine Wp_region ?_
     refine Rg_op rfl (op_move (v := (Value.slice a_g39 newslice_1.length c_g39)) rfl ?_)
     refine Rg_op rfl (op_assign (v := (Value.slice a_g39 newslice_1.length c_g39)) rfl ?_)
     refine Rg_nil ?_
     refine Wp_ret ?_
     refine ⟨_, (show Closes [] _ _ from rfl), [(Value.slice a_g39 newslice_1.length c_g39)], ⟨rfl, trivial⟩, hs47.ext, ?_⟩
     exact OkG.mk (i := 0) hs47 rfl f_g39 (Option.some.inj hm)
end Go.Fx



set_option linter.unusedVariables false
set_option linter.unusedSimpArgs false
set_option maxRecDepth 100000
set_option maxHeartbeats 0
namespace Go.Fx
open Go Go.RowKit Go.Proofs
def m23_vector_Sums_B1 (a : List (List Int)) (b : List (List Int)) (v_2 : Int) (sf91 : (List (List Int)) → Int → Option ((List (List Int)) × Int)) (sf114 : (List (List Int)) → Int → Option ((List (List Int)) × Int)) (x_2 : List (List Int)) (v_3 : Int) : Option ((List (List Int)) × Int) :=
 bif (decide (v_3 < (b.length : Int))) then
  ck ((0 : Int) ≤ v_3 ∧ v_3 < (b.length : Int)) <|
  (m13_vector_Add (a.getD v_2.toNat default) (b.getD v_3.toNat default)).bind fun add_1 =>
  ck ((x_2.length + [add_1.1].length) * 24 ≤ 140737488355328) <|
  sf114 (x_2 ++ [add_1.1]) (IntKind.wrap .i64 (v_3 + 1))
 else
  sf91 x_2 (IntKind.wrap .i64 (v_2 + 1))

def m23_vector_Sums_B0 (a : List (List Int)) (b : List (List Int)) (sf91 : (List (List Int)) → Int → Option ((List (List Int)) × Int)) (x_1 : List (List Int)) (v_2 : Int) : Option ((List (List Int)) × Int) :=
 bif (decide (v_2 < (a.length : Int))) then
  ck ((0 : Int) ≤ v_2 ∧ v_2 < (a.length : Int)) <|
  loop2 (m23_vector_Sums_B1 a b v_2 sf91) (((b.length : Int) - 0).toNat + 1) x_1 0
 else
  (m37_vector_least x_1).bind fun least_1 =>
  bif (decide (4096 < (least_1.length : Int))) then
   some (([] : List (List Int)), 2)
  else
   some (least_1, 0)

def m23_vector_Sums (a : List (List Int)) (b : List (List Int)) : Option ((List (List Int)) × Int) :=
 (m40_slices_Concatint_int_ [a, b]).bind fun concat_1 =>
 (m36_vector_alike concat_1 (some (fun x35 => m29_vector_small x35))).bind fun alike_1 =>
 bif (!alike_1) then
  some (([] : List (List Int)), 60)
 else
  jn (fun (v_1 : Bool) =>
   bif v_1 then
    some (([] : List (List Int)), 2)
   else
    loop2 (m23_vector_Sums_B0 a b) (((a.length : Int) - 0).toNat + 1) ([] : List (List Int)) 0)
  (fun k73 =>
   bif (decide (4096 < (a.length : Int))) then
    k73 true
   else
    bif (decide (4096 < (b.length : Int))) then
     k73 true
    else
     k73 (decide (1048576 < (IntKind.wrap .i64 ((a.length : Int) * (b.length : Int))))))

theorem c23_vector_Sums {w : World} {O : List Nat} {a : List (List Int)} {b : List (List Int)} {a_a : Option Addr} {c_a : Nat} {a_b : Option Addr} {c_b : Nat} (hO : ∀ k ∈ O, k < w.heap.size) (f_a : SlR (rSl (rInt .i64)) w O a_a c_a a) (f_b : SlR (rSl (rInt .i64)) w O a_b c_b b) {x : (List (List Int)) × Int} (hm : m23_vector_Sums a b = some x) :
  Ok Try.prog 23 [(Value.slice a_a a.length c_a), (Value.slice a_b b.length c_b)] w O (vT2 (vC (rSl (rSl (rInt .i64)))) (vI .i64)) x := by
 unfold m23_vector_Sums at hm
 refine Fn_of_Wp (n := 64) (xs := [.tmp 4, .tmp 5]) Try.func23 rfl Try.ntmps23 Try.results23 rfl ?_
 have hs := St.start hO
 refine Wp_seq ?_
 refine Wp_region ?_
 refine Rg_op rfl (op_assign (v := (Value.slice none 0 0)) rfl ?_)
 refine Rg_op rfl (op_assign (v := (Value.int .i64 0)) rfl ?_)
 refine Rg_nil ?_
 refine Wp_seq ?_
 refine Wp_seq ?_
 refine Wp_region ?_
 refine Rg_op rfl (op_move (v := (Value.slice a_a a.length c_a)) rfl ?_)
 refine Rg_op rfl (op_move (v := (Value.slice a_b b.length c_b)) rfl ?_)
 refine Rg_op rfl (op_buildSlice (cs := [(Value.slice a_a a.length c_a), (Value.slice a_b b.length c_b)]) (parts := [(0, .tmp 12), (1, .tmp 13)]) ty59 ty33 hs (by decide) rfl ?_)
 intro b1 w2 hx5 p3 hs4
 replace f_a := f_a.step p3; replace f_b := f_b.step p3; clear p3
 obtain ⟨hs8, p9, f7⟩ := St.publish (i := 0) (o := 0) (c := 2) (xs := [a, b]) hs4 rfl (show Els (rSl (rSl (rInt .i64))) _ _ [(Value.slice a_a a.length c_a), (Value.slice a_b b.length c_b)] [a, b] from ⟨_, _, rfl, (mk_sl f_a), ⟨_, _, rfl, (mk_sl f_b), Els.nil⟩⟩) (le_lit rfl) (le_lit rfl) (le_lit rfl)
 replace f_a := f_a.step p9; replace f_b := f_b.step p9; clear p9 hs4
 replace hm := bd hm; obtain ⟨concat_1, hv10, hm⟩ := hm
 refine Rg_op rfl (op_call Try.call40 (g40_slices_Concatint_int_ (slices := [a, b]) hs8.ltw f7 hv10) rfl ?_)
 rintro _ w12 ⟨hx13, a16, c17, k18, o19, rfl, hk20, f21⟩
 obtain ⟨hs15, p22⟩ := hs8.callG (o := o19) hx13 hk20
 rw [← ks_cons (o := o19)] at f21
 replace f_a := f_a.step p22; replace f_b := f_b.step p22; replace f7 := f7.step p22; clear p22 hs8
 have F25 : CallsTo1 Try.prog w12 (ks [(k18, o19)] O) (Value.func (.func 29) #[] #[]) (vC (rSl (rInt .i64))) vB (fun x24 => m29_vector_small x24) := by
  intro w26 O27 st28 hO29 v32 x24 y30 h33 hy31
  obtain ⟨a_y34, c_y34, rfl, f_y34⟩ := un_sl h33
  exact ⟨29, #[], #[], rfl, Try.call29, c29_vector_small (a := x24) hO29 f_y34 hy31⟩
 have F36 : CallsTo1 Try.prog w12 (ks [(k18, o19)] O) (Value.func (.func 29) #[] #[]) (vC (rSl (rInt .i64))) vB (fun x35 => m29_vector_small x35) := by
  intro w37 O38 st39 hO40 v43 x35 y41 h44 hy42
  obtain ⟨a_y45, c_y45, rfl, f_y45⟩ := un_sl h44
  exact ⟨29, #[], #[], rfl, Try.call29, c29_vector_small (a := x35) hO40 f_y45 hy42⟩
 obtain ⟨hs46, p47, f48⟩ := Gs.publish (i := 0) hs15 rfl f21
 replace hm := bd hm; obtain ⟨alike_1, hv49, hm⟩ := hm
 have F56 : CallsTo1 Try.prog w12 (ks [(k18, o19)] O) (Value.func (.func 29) #[] #[]) (vC (rSl (rInt .i64))) vB (fun x55 => m29_vector_small x55) := by
  intro w57 O58 st59 hO60 v63 x55 y61 h64 hy62
  obtain ⟨a_y65, c_y65, rfl, f_y65⟩ := un_sl h64
  exact ⟨29, #[], #[], rfl, Try.call29, c29_vector_small (a := x55) hO60 f_y65 hy62⟩
 refine Rg_op rfl (op_call Try.call36 (c36_vector_alike (l := concat_1) (ask := (some (fun x35 => m29_vector_small x35))) hs46.ltw f48 ((CallsO1.some_ F36).step p47) hv49) rfl ?_)
 rintro v50 w51 ⟨hx52, h53⟩
 have hs54 := hs15.call hx52
 have p66 := Step.ext (O := ks [(k18, o19)] O) hx52
 clear hx52
 replace f_a := f_a.step p66; replace f_b := f_b.step p66; replace f7 := f7.step p66; replace f21 := f21.step p66; replace F25 := F25.step p66; replace F36 := F36.step p66; replace F56 := F56.step p66; clear p66 hs15
 obtain rfl := h53
 refine Rg_op rfl (op_not rfl ?_)
 refine Rg_nil ?_
 refine Wp_cond rfl (fun hc68 => ?_) (fun hc68 => ?_)
 ·
  replace hm := bif_t hm hc68
  refine Wp_seq ?_
  obtain ⟨hs69, p70⟩ := hs54.sub (bs' := []) (.cons _ List.Sublist.slnil)
  clear f_a f_b f7 f21 F25 F36 F56
  clear p70 hs54
  refine Wp_region ?_
  refine Rg_op rfl (op_assign (v := (Value.slice none 0 0)) rfl ?_)
  refine Rg_op rfl (op_assign (v := (Value.int .i64 60)) rfl ?_)
  refine Rg_nil ?_
  refine Wp_ret ?_
  have hz := step_all hs69
  refine ⟨_, (show Closes [] _ _ from rfl), [(Value.slice none 0 0), (Value.int .i64 60)], ⟨rfl, rfl, trivial⟩, hs69.ext, ?_⟩
  exact Vr.eq (a := (vT2 (vC (rSl (rSl (rInt .i64)))) (vI .i64))) (x := (([] : List (List Int)), 60)) (mkT2 (mkC (mk_sl SlR.nil_)) ⟨rfl, (show InK .i64 60 from by decide)⟩) (Option.some.inj hm)
 ·
  replace hm := bif_f hm hc68
  refine Wp_skip ?_
  refine Wp_seq ?_
  refine Wp_reset [] [(0, (Value.slice a_a a.length c_a)), (1, (Value.slice a_b b.length c_b)), (4, (Value.slice none 0 0))] rfl ⟨rfl, rfl, rfl, trivial⟩ fun ξ71 => ?_
  replace hm := jn_elim hm; obtain ⟨k73, hk74, hm⟩ := hm
  refine Wp_seqJ [18, 19, 20, 21, 22, 23, 24, 25, 26, 27, 28, 29, 30, 31, 32, 33] (fun fr w' => ∃ (v_1 : Bool) (Ebs : Ents), Ebs = [(k18, o19)] ∧ fr [] [(33, (Value.bool v_1))] ∧ Step (ks [(k18, o19)] O) w51 (ks Ebs O) w' ∧ St ⟨w, [], []⟩ O w' Ebs ∧ k73 v_1 = some x) ?_ ?_
  ·
   rintro ρ80 w76 ⟨v_1, Ebs, hEbs, hfr79, hst78, hs77, hm⟩
   replace hm := jnE1 hk74 hm
   subst hEbs; rw [hfr79.eq]; clear hfr79
   replace f_a := f_a.step hst78; replace f_b := f_b.step hst78; replace f7 := f7.step hst78; replace f21 := f21.step hst78; replace F25 := F25.step hst78; replace F36 := F36.step hst78; replace F56 := F56.step hst78; clear hst78 hs54
   refine Wp_cond rfl (fun hc81 => ?_) (fun hc81 => ?_)
   ·
    replace hm := bif_t hm hc81
    refine Wp_seq ?_
    obtain ⟨hs82, p83⟩ := hs77.sub (bs' := []) (.cons _ List.Sublist.slnil)
    clear f_a f_b f7 f21 F25 F36 F56
    clear p83 hs77
    refine Wp_region ?_
    refine Rg_op rfl (op_assign (v := (Value.slice none 0 0)) rfl ?_)
    refine Rg_op rfl (op_assign (v := (Value.int .i64 2)) rfl ?_)
    refine Rg_nil ?_
    refine Wp_ret ?_
    have hz := step_all hs82
    refine ⟨_, (show Closes [] _ _ from rfl), [(Value.slice none 0 0), (Value.int .i64 2)], ⟨rfl, rfl, trivial⟩, hs82.ext, ?_⟩
    exact Vr.eq (a := (vT2 (vC (rSl (rSl (rInt .i64)))) (vI .i64))) (x := (([] : List (List Int)), 2)) (mkT2 (mkC (mk_sl SlR.nil_)) ⟨rfl, (show InK .i64 2 from by decide)⟩) (Option.some.inj hm)
   ·
    replace hm := bif_f hm hc81
    refine Wp_skip ?_
    refine Wp_seq ?_
    refine Wp_seq ?_
    obtain ⟨hs84, p85⟩ := hs77.sub (bs' := []) (.cons _ List.Sublist.slnil)
    clear f7 f21 F25 F36 F56
    replace f_a := f_a.step p85; replace f_b := f_b.step p85; clear p85 hs77
    refine Wp_region ?_
    refine Rg_op rfl (op_move (v := (Value.slice a_a a.length c_a)) rfl ?_)
    refine Rg_op rfl (op_len Try.underlying33 rfl ?_)
    have rl86 := inK_len f_a
    refine Rg_op rfl (op_move (v := (Value.int .i64 0)) rfl ?_)
    refine Rg_nil ?_
    refine Wp_block ?_
    refine Wp_reset [] [(1, (Value.slice a_b b.length c_b)), (4, (Value.slice none 0 0)), (34, (Value.slice a_a a.length c_a)), (35, (Value.int .i64 (a.length : Int))), (36, (Value.int .i64 0))] rfl ⟨rfl, rfl, rfl, rfl, rfl, trivial⟩ fun ξ90 => ?_
    have hs95 := hs84.ghost (Obj.cells #[] 22)
    refine Wp_loopM [4, 7, 9, 10, 11, 36, 37, 38, 39, 40, 41, 42, 43, 44, 45, 46, 47, 48, 49, 50, 51, 52, 53, 54, 55, 56, 57] (fun m fr w' => ∃ (x_1 : List (List Int)) (v_2 : Int) (a_g88 : Option Addr) (c_g88 : Nat) (k_g88 : Option Nat) (o_g88 : Obj) (Ebs : Ents), Ebs = [(k_g88, o_g88)] ∧ fr [] [(4, (Value.slice a_g88 x_1.length c_g88)), (36, (Value.int .i64 v_2))] ∧ Step (ks [(none, (Obj.cells #[] 22))] O) w76 (ks Ebs O) w' ∧ St ⟨w, [], []⟩ O w' Ebs ∧ Gs (rSl (rInt .i64)) 22 w' (ks Ebs O) a_g88 c_g88 x_1 k_g88 o_g88 ∧ InK .i64 v_2 ∧ loop2 (m23_vector_Sums_B0 a b) m x_1 v_2 = some x) (((a.length : Int) - 0).toNat + 1) ⟨([] : List (List Int)), 0, none, 0, none, (Obj.cells #[] 22), _, rfl, ⟨Out.refl _ _, rfl, rfl, rfl, trivial⟩, Step.refl _ _, hs95, Gs.nil_, (show InK .i64 0 from by decide), hm⟩ ?_ ?_
    · rintro _ _ ⟨_, _, _, _, _, _, _, _, _, _, _, _, _, hm⟩; exact loop2_z hm
    ·
     rintro m94 K93 hK93 ρ101 w97 ⟨x_1, v_2, a_g88, c_g88, k_g88, o_g88, Ebs, hEbs, hfr100, hst99, hs98, f_g88, r_y89, hm⟩
     obtain ⟨sf91, hsf92, hm⟩ := loop2_s hm; unfold m23_vector_Sums_B0 at hm
     subst hEbs; rw [hfr100.eq]; clear hfr100
     replace f_a := f_a.step hst99; replace f_b := f_b.step hst99
     have ch102 := hst99
     refine Wp_seq ?_
     refine Wp_region ?_
     refine Rg_op rfl (op_lss rfl rfl ?_)
     refine Rg_nil ?_
     refine Wp_seq ?_
     refine Wp_cond rfl (fun hc103 => ?_) (fun hc103 => ?_)
     ·
      replace hm := bif_t hm hc103
      refine Wp_skip ?_
      refine Wp_seq ?_
      refine Wp_block ?_
      refine Wp_seq ?_
      refine Wp_region ?_
      replace hm := ck_some hm; obtain ⟨hc104, hm⟩ := hm
      refine Rg_op rfl (op_indexAddr (q := (rSl (rInt .i64))) ty33 ty22 rfl rfl f_a rfl hc104.1 hc104.2 ?_)
      intro p105 f106
      refine Rg_op rfl (op_loadP ty22 rfl f106 rfl ?_)
      intro v107 h108
      obtain ⟨a_y109, c_y109, rfl, f_y109⟩ := un_sl h108
      refine Rg_op rfl (op_assign (v := (Value.slice a_y109 (a.getD v_2.toNat default).length c_y109)) rfl ?_)
      refine Rg_nil ?_
      refine Wp_seq ?_
      clear f106
      refine Wp_region ?_
      refine Rg_op rfl (op_move (v := (Value.slice a_b b.length c_b)) rfl ?_)
      refine Rg_op rfl (op_len Try.underlying33 rfl ?_)
      have rl110 := inK_len f_b
      refine Rg_op rfl (op_move (v := (Value.int .i64 0)) rfl ?_)
      refine Rg_nil ?_
      refine Wp_block ?_
      refine Wp_reset2 [4, 7, 9, 10, 11, 36, 37, 38, 39, 40, 41, 42, 43, 44, 45, 46, 47, 48, 49, 50, 51, 52, 53, 54, 55, 56, 57] [] (updL ⟨ξ90, []⟩ [(1, (Value.slice a_b b.length c_b)), (4, (Value.slice none 0 0)), (34, (Value.slice a_a a.length c_a)), (35, (Value.int .i64 (a.length : Int))), (36, (Value.int .i64 0))]) [(4, (Value.slice a_g88 x_1.length c_g88)), (7, (Value.slice a_y109 (a.getD v_2.toNat default).length c_y109)), (36, (Value.int .i64 v_2)), (40, (Value.slice a_b b.length c_b)), (41, (Value.int .i64 (b.length : Int))), (42, (Value.int .i64 0))] (by repeat (first | with_reducible exact Out.refl _ _ | refine Out.upd ?_ rfl | refine Out.updL ?_ rfl | refine Out.mix' ?_ rfl | exact Out.refl _ _)) rfl ⟨rfl, rfl, rfl, rfl, rfl, rfl, trivial⟩ fun ξ113 => ?_
      refine Wp_loopM [4, 9, 10, 11, 42, 43, 44, 45, 46, 47, 48, 49, 50, 51, 52, 53, 54, 55, 56] (fun m fr w' => ∃ (x_2 : List (List Int)) (v_3 : Int) (a_g111 : Option Addr) (c_g111 : Nat) (k_g111 : Option Nat) (o_g111 : Obj) (Ebs : Ents), Ebs = [(k_g111, o_g111)] ∧ fr [] [(4, (Value.slice a_g111 x_2.length c_g111)), (42, (Value.int .i64 v_3))] ∧ Step (ks [(k_g88, o_g88)] O) w97 (ks Ebs O) w' ∧ St ⟨w, [], []⟩ O w' Ebs ∧ Gs (rSl (rInt .i64)) 22 w' (ks Ebs O) a_g111 c_g111 x_2 k_g111 o_g111 ∧ InK .i64 v_3 ∧ loop2 (m23_vector_Sums_B1 a b v_2 sf91) m x_2 v_3 = some x) (((b.length : Int) - 0).toNat + 1) ⟨x_1, 0, a_g88, c_g88, k_g88, o_g88, _, rfl, ⟨Out.refl _ _, rfl, rfl, rfl, trivial⟩, Step.refl _ _, hs98, f_g88, (show InK .i64 0 from by decide), hm⟩ ?_ ?_
      · rintro _ _ ⟨_, _, _, _, _, _, _, _, _, _, _, _, _, hm⟩; exact loop2_z hm
      ·
       rintro m117 K116 hK116 ρ122 w118 ⟨x_2, v_3, a_g111, c_g111, k_g111, o_g111, Ebs, hEbs, hfr121, hst120, hs119, f_g111, r_y112, hm⟩
       obtain ⟨sf114, hsf115, hm⟩ := loop2_s hm; unfold m23_vector_Sums_B1 at hm
       subst hEbs; rw [hfr121.eq]; clear hfr121
       replace f_a := f_a.step hst120; replace f_b := f_b.step hst120; replace f_g88 := f_g88.step hst120; replace f_y109 := f_y109.step hst120; replace ch102 := ch102.trans hst120
       have ch123 := hst120
       refine Wp_seq ?_
       clear f_g88
       refine Wp_region ?_
       refine Rg_op rfl (op_lss rfl rfl ?_)
       refine Rg_nil ?_
       refine Wp_seq ?_
       refine Wp_cond rfl (fun hc124 => ?_) (fun hc124 => ?_)
       ·
        replace hm := bif_t hm hc124
        refine Wp_skip ?_
        refine Wp_seq ?_
        refine Wp_block ?_
        refine Wp_seq ?_
        refine Wp_region ?_
        replace hm := ck_some hm; obtain ⟨hc125, hm⟩ := hm
        refine Rg_op rfl (op_indexAddr (q := (rSl (rInt .i64))) ty33 ty22 rfl rfl f_b rfl hc125.1 hc125.2 ?_)
        intro p126 f127
        refine Rg_op rfl (op_loadP ty22 rfl f127 rfl ?_)
        intro v128 h129
        obtain ⟨a_y130, c_y130, rfl, f_y130⟩ := un_sl h129
        refine Rg_op rfl (op_assign (v := (Value.slice a_y130 (b.getD v_3.toNat default).length c_y130)) rfl ?_)
        refine Rg_nil ?_
        refine Wp_seq ?_
        clear f127
        refine Wp_region ?_
        refine Rg_op rfl (op_move (v := (Value.slice a_y109 (a.getD v_2.toNat default).length c_y109)) rfl ?_)
        refine Rg_op rfl (op_move (v := (Value.slice a_y130 (b.getD v_3.toNat default).length c_y130)) rfl ?_)
        replace hm := bd hm; obtain ⟨add_1, hv131, hm⟩ := hm
        refine Rg_op rfl (op_call Try.call13 (c13_vector_Add (a := (a.getD v_2.toNat default)) (b := (b.getD v_3.toNat default)) hs119.ltw f_y109 f_y130 hv131) rfl ?_)
        rintro v132 w133 ⟨hx134, h135⟩
        have hs136 := hs119.call hx134
        have p137 := Step.ext (O := ks [(k_g111, o_g111)] O) hx134
        clear hx134
        replace f_a := f_a.step p137; replace f_b := f_b.step p137; replace f_y109 := f_y109.step p137; replace f_g111 := f_g111.step p137; replace f_y130 := f_y130.step p137; replace ch102 := ch102.trans p137; replace ch123 := ch123.trans p137; clear p137 hs119
        obtain ⟨v138, v139, rfl, h140, h141⟩ := h135
        obtain ⟨a_y142, c_y142, rfl, f_y142⟩ := un_sl h140
        obtain ⟨rfl, r_y143⟩ := h141
        refine Rg_op rfl (op_move (v := (Value.tuple [(Value.slice a_y142 add_1.1.length c_y142), (Value.int .i64 add_1.2)].toArray)) rfl ?_)
        refine Rg_op rfl (op_extract (v := (Value.slice a_y142 add_1.1.length c_y142)) rfl rfl ?_)
        refine Rg_op rfl (op_extract (v := (Value.int .i64 add_1.2)) rfl rfl ?_)
        refine Rg_op rfl (op_assign (v := (Value.slice a_y142 add_1.1.length c_y142)) rfl ?_)
        refine Rg_op rfl (op_assign (v := (Value.int .i64 add_1.2)) rfl ?_)
        refine Rg_nil ?_
        clear f_y130
        refine Wp_region ?_
        refine Rg_op rfl (op_move (v := (Value.slice a_g111 x_2.length c_g111)) rfl ?_)
        refine Rg_op rfl (op_move (v := (Value.slice a_y142 add_1.1.length c_y142)) rfl ?_)
        refine Rg_op rfl (op_buildSlice (cs := [(Value.slice a_y142 add_1.1.length c_y142)]) (parts := [(0, .tmp 53)]) ty33 ty22 hs136 (by decide) rfl ?_)
        intro b144 w145 hx148 p146 hs147
        replace f_a := f_a.step p146; replace f_b := f_b.step p146; replace f_y109 := f_y109.step p146; replace f_g111 := f_g111.step p146; replace f_y142 := f_y142.step p146; replace ch102 := ch102.trans p146; replace ch123 := ch123.trans p146; clear p146 hs136
        replace hm := ck_some hm; obtain ⟨hc150, hm⟩ := hm
        refine Rg_op rfl (op_append (q := (rSl (rInt .i64))) (i := 1) (xs := x_2) (ys := [add_1.1]) (news := [(Value.slice a_y142 add_1.1.length c_y142)]) ty33 ty22 rfl (by decide) hs147 rfl rfl f_g111 rfl (Src.owned' (len := 1) (hs147.get (i := 0) rfl) rfl) (show Els (rSl (rInt .i64)) _ _ [(Value.slice a_y142 add_1.1.length c_y142)] [add_1.1] from ⟨_, _, rfl, (mk_sl f_y142), Els.nil⟩) hc150 (by have := hc150; simp only [maxLen]; omega) ?_)
        intro a154 c155 k156 o157 w151 p152 hs153 f158
        replace f_a := f_a.step p152; replace f_b := f_b.step p152; replace f_y109 := f_y109.step p152; replace f_y142 := f_y142.step p152; replace ch102 := ch102.trans p152; replace ch123 := ch123.trans p152; clear p152 hs147
        have hs159 := hs153.drop 0
        replace f_a := f_a.step (hs153.dropS 0)
        replace f_b := f_b.step (hs153.dropS 0)
        replace f_y109 := f_y109.step (hs153.dropS 0)
        replace f_y142 := f_y142.step (hs153.dropS 0)
        replace f158 := f158.step (hs153.dropS 0)
        replace ch102 := ch102.trans (hs153.dropS 0)
        replace ch123 := ch123.trans (hs153.dropS 0); clear hs153
        refine Rg_op rfl (op_assign (v := (Value.slice a154 (x_2 ++ [add_1.1]).length c155)) rfl ?_)
        refine Rg_nil ?_
        clear f_y142
        refine Wp_region ?_
        refine Rg_op rfl (op_addw rfl rfl ?_)
        refine Rg_op rfl (op_move (v := (Value.int .i64 (IntKind.wrap .i64 (v_3 + 1)))) rfl ?_)
        refine Rg_nil ?_
        exact hK116 _ _ ⟨(x_2 ++ [add_1.1]), (IntKind.wrap .i64 (v_3 + 1)), a154, c155, k156, o157, _, rfl, ⟨(by repeat (first | with_reducible exact Out.refl _ _ | refine Out.upd ?_ rfl | refine Out.updL ?_ rfl | refine Out.mix' ?_ rfl | exact Out.refl _ _)), rfl, rfl, rfl, trivial⟩, ch123, hs159, f158, (inK_wrap .i64 _), jnE2 hsf115 hm⟩
       ·
        replace hm := bif_f hm hc124
        refine Wp_exit ?_
        clear f_y109
        refine Wp_region ?_
        refine Rg_op rfl (op_addw rfl rfl ?_)
        refine Rg_op rfl (op_move (v := (Value.int .i64 (IntKind.wrap .i64 (v_2 + 1)))) rfl ?_)
        refine Rg_nil ?_
        exact hK93 _ _ ⟨x_2, (IntKind.wrap .i64 (v_2 + 1)), a_g111, c_g111, k_g111, o_g111, _, rfl, ⟨(by repeat (first | with_reducible exact Out.refl _ _ | refine Out.upd ?_ rfl | refine Out.updL ?_ rfl | refine Out.mix' ?_ rfl | exact Out.refl _ _)), rfl, rfl, rfl, trivial⟩, ch102, hs119, f_g111, (inK_wrap .i64 _), jnE2 hsf92 hm⟩
     ·
      replace hm := bif_f hm hc103
      refine Wp_exit ?_
      refine Wp_seq ?_
      clear f_a f_b
      refine Wp_region ?_
      refine Rg_op rfl (op_move (v := (Value.slice a_g88 x_1.length c_g88)) rfl ?_)
      obtain ⟨hs161, p162, f160⟩ := Gs.publish (i := 0) hs98 rfl f_g88
      replace ch102 := ch102.trans p162; clear p162 hs98
      replace hm := bd hm; obtain ⟨least_1, hv163, hm⟩ := hm
      refine Rg_op rfl (op_call Try.call37 (g37_vector_least (l := x_1) hs161.ltw f160 hv163) rfl ?_)
      rintro _ w165 ⟨hx166, a169, c170, k171, o172, rfl, hk173, f174⟩
      obtain ⟨hs168, p175⟩ := hs161.callG (o := o172) hx166 hk173
      rw [← ks_cons (o := o172)] at f174
      replace f160 := f160.step p175; replace ch102 := ch102.trans p175; clear p175 hs161
      refine Rg_op rfl (op_assign (v := (Value.slice a169 least_1.length c170)) rfl ?_)
      refine Rg_nil ?_
      refine Wp_seq ?_
      refine Wp_seq ?_
      clear f160
      refine Wp_region ?_
      refine Rg_op rfl (op_move (v := (Value.slice a169 least_1.length c170)) rfl ?_)
      refine Rg_op rfl (op_len Try.underlying33 rfl ?_)
      have rl177 := inK_lenG f174
      refine Rg_op rfl (op_gtr rfl rfl ?_)
      refine Rg_nil ?_
      refine Wp_cond rfl (fun hc178 => ?_) (fun hc178 => ?_)
      ·
       replace hm := bif_t hm hc178
       refine Wp_seq ?_
       obtain ⟨hs179, p180⟩ := hs168.sub (bs' := []) (.cons _ List.Sublist.slnil)
       clear f174
       replace ch102 := ch102.trans p180; clear p180 hs168
       refine Wp_region ?_
       refine Rg_op rfl (op_assign (v := (Value.slice none 0 0)) rfl ?_)
       refine Rg_op rfl (op_assign (v := (Value.int .i64 2)) rfl ?_)
       refine Rg_nil ?_
       refine Wp_ret ?_
       have hz := step_all hs179
       refine ⟨_, (show Closes [] _ _ from rfl), [(Value.slice none 0 0), (Value.int .i64 2)], ⟨rfl, rfl, trivial⟩, hs179.ext, ?_⟩
       exact Vr.eq (a := (vT2 (vC (rSl (rSl (rInt .i64)))) (vI .i64))) (x := (([] : List (List Int)), 2)) (mkT2 (mkC (mk_sl SlR.nil_)) ⟨rfl, (show InK .i64 2 from by decide)⟩) (Option.some.inj hm)
      ·
       replace hm := bif_f hm hc178
       refine Wp_skip ?_
       refine Wp_seq ?_
       refine Wp_region ?_
       refine Rg_op rfl (op_move (v := (Value.slice a169 least_1.length c170)) rfl ?_)
       refine Rg_op rfl (op_assign (v := (Value.slice a169 least_1.length c170)) rfl ?_)
       refine Rg_op rfl (op_assign (v := (Value.int .i64 0)) rfl ?_)
       refine Rg_nil ?_
       refine Wp_ret ?_
       obtain ⟨hs182, p183, f181⟩ := Gs.publish (i := 0) hs168 rfl f174
       replace ch102 := ch102.trans p183; clear p183 hs168
       have hz := step_all hs182
       replace f181 := f181.step hz
       refine ⟨_, (show Closes [] _ _ from rfl), [(Value.slice a169 least_1.length c170), (Value.int .i64 0)], ⟨rfl, rfl, trivial⟩, hs182.ext, ?_⟩
       exact Vr.eq (a := (vT2 (vC (rSl (rSl (rInt .i64)))) (vI .i64))) (x := (least_1, 0)) (mkT2 (mkC (mk_sl f181)) ⟨rfl, (show InK .i64 0 from by decide)⟩) (Option.some.inj hm)
  ·
   intro K75 hK75
   have ch184 := Step.refl (ks [(k18, o19)] O) w51
   clear f7 f21 F25 F36 F56
   refine Wp_region ?_
   refine Rg_op rfl (op_move (v := (Value.slice a_a a.length c_a)) rfl ?_)
   refine Rg_op rfl (op_len Try.underlying33 rfl ?_)
   have rl185 := inK_len f_a
   refine Rg_op rfl (op_gtr rfl rfl ?_)
   refine Rg_op rfl (op_move (v := (Value.bool (decide (4096 < (a.length : Int))))) rfl ?_)
   refine Rg_case (fun hg186 => ?_) (fun hg186 => ?_)
   ·
    replace hm := bif_t hm hg186
    iterate 3 refine Rg_opx rfl (asB_ne rfl rfl) rfl ?_
    refine Rg_op rfl (op_pick_t (v := (Value.bool true)) rfl rfl ?_)
    refine Rg_op rfl (op_move (v := (Value.bool true)) rfl ?_)
    iterate 6 refine Rg_opx rfl (asB_ne rfl rfl) rfl ?_
    refine Rg_op rfl (op_pick_t (v := (Value.bool true)) rfl rfl ?_)
    refine Rg_nil ?_
    exact hK75 _ _ ⟨true, _, rfl, ⟨(by repeat (first | with_reducible exact Out.refl _ _ | refine Out.upd ?_ rfl | refine Out.updL ?_ rfl | refine Out.mix' ?_ rfl | exact Out.refl _ _)), rfl, rfl, trivial⟩, ch184, hs54, hm⟩
   ·
    replace hm := bif_f hm hg186
    refine Rg_opg rfl rfl rfl (op_move (v := (Value.slice a_b b.length c_b)) rfl ?_)
    refine Rg_opg rfl rfl rfl (op_len Try.underlying33 rfl ?_)
    have rl187 := inK_len f_b
    refine Rg_opg rfl rfl rfl (op_gtr rfl rfl ?_)
    refine Rg_op rfl (op_pick_f (v := (Value.bool (decide (4096 < (b.length : Int))))) rfl rfl ?_)
    refine Rg_op rfl (op_move (v := (Value.bool (decide (4096 < (b.length : Int))))) rfl ?_)
    refine Rg_case (fun hg188 => ?_) (fun hg188 => ?_)
    ·
     replace hm := bif_t hm hg188
     iterate 6 refine Rg_opx rfl (asB_ne rfl rfl) rfl ?_
     refine Rg_op rfl (op_pick_t (v := (Value.bool true)) rfl rfl ?_)
     refine Rg_nil ?_
     exact hK75 _ _ ⟨true, _, rfl, ⟨(by repeat (first | with_reducible exact Out.refl _ _ | refine Out.upd ?_ rfl | refine Out.updL ?_ rfl | refine Out.mix' ?_ rfl | exact Out.refl _ _)), rfl, rfl, trivial⟩, ch184, hs54, hm⟩
    ·
     replace hm := bif_f hm hg188
     refine Rg_opg rfl rfl rfl (op_move (v := (Value.slice a_a a.length c_a)) rfl ?_)
     refine Rg_opg rfl rfl rfl (op_len Try.underlying33 rfl ?_)
     have rl189 := inK_len f_a
     refine Rg_opg rfl rfl rfl (op_move (v := (Value.slice a_b b.length c_b)) rfl ?_)
     refine Rg_opg rfl rfl rfl (op_len Try.underlying33 rfl ?_)
     have rl190 := inK_len f_b
     refine Rg_opg rfl rfl rfl (op_mulw rfl rfl ?_)
     refine Rg_opg rfl rfl rfl (op_gtr rfl rfl ?_)
     refine Rg_op rfl (op_pick_f (v := (Value.bool (decide (1048576 < (IntKind.wrap .i64 ((a.length : Int) * (b.length : Int))))))) rfl rfl ?_)
     refine Rg_nil ?_
     exact hK75 _ _ ⟨(decide (1048576 < (IntKind.wrap .i64 ((a.length : Int) * (b.length : Int))))), _, rfl, ⟨(by repeat (first | with_reducible exact Out.refl _ _ | refine Out.upd ?_ rfl | refine Out.updL ?_ rfl | refine Out.mix' ?_ rfl | exact Out.refl _ _)), rfl, rfl, trivial⟩, ch184, hs54, hm⟩

end Go.Fx



set_option linter.unusedVariables false
set_option linter.unusedSimpArgs false
set_option maxRecDepth 100000
set_option maxHeartbeats 0
namespace Go.Fx
open Go Go.RowKit Go.Proofs
def m43_vector_Fits_1 (a : List Int) (fv0_ : List Int) : Option Bool :=
 some (decide ((a.length : Int) ≠ (fv0_.length : Int)))

theorem c43_vector_Fits_1 {w : World} {O : List Nat} {a : List Int} {fv0_ : List Int} {a_a : Option Addr} {c_a : Nat} {p_fv0_ : Addr} (hO : ∀ k ∈ O, k < w.heap.size) (f_a : SlR (rInt .i64) w O a_a c_a a) (f_fv0_ : PtR (rSl (rInt .i64)) w O p_fv0_ fv0_) {x : Bool} (hm : m43_vector_Fits_1 a fv0_ = some x) :
  Ok Try.prog 43 [(Value.slice a_a a.length c_a), (Value.pointer (some p_fv0_))] w O vB x := by
 unfold m43_vector_Fits_1 at hm
 refine Fn_of_Wp (n := 9) (xs := [.tmp 3]) Try.func43 rfl Try.ntmps43 Try.results43 rfl ?_
 have hs := St.start hO
 refine Wp_seq ?_
 refine Wp_region ?_
 refine Rg_op rfl (op_assign (v := (Value.bool false)) rfl ?_)
 refine Rg_nil ?_
 refine Wp_seq ?_
 refine Wp_region ?_
 refine Rg_op rfl (op_move (v := (Value.slice a_a a.length c_a)) rfl ?_)
 refine Rg_op rfl (op_len Try.underlying22 rfl ?_)
 have rl1 := inK_len f_a
 refine Rg_op rfl (op_loadP ty22 rfl f_fv0_ rfl ?_)
 intro v2 h3
 obtain ⟨a_y4, c_y4, rfl, f_y4⟩ := un_sl h3
 refine Rg_op rfl (op_len Try.underlying22 rfl ?_)
 have rl5 := inK_len f_y4
 refine Rg_op rfl (op_neq rfl rfl ?_)
 refine Rg_op rfl (op_assign (v := (Value.bool (decide ((a.length : Int) ≠ (fv0_.length : Int))))) rfl ?_)
 refine Rg_nil ?_
 refine Wp_ret ?_
 have hz := step_all hs
 replace f_a := f_a.step hz; replace f_fv0_ := f_fv0_.step hz; replace f_y4 := f_y4.step hz
 refine ⟨_, (show Closes [] _ _ from rfl), [(Value.bool (decide ((a.length : Int) ≠ (fv0_.length : Int))))], ⟨rfl, trivial⟩, hs.ext, ?_⟩
 exact Vr.eq (a := vB) (x := (decide ((a.length : Int) ≠ (fv0_.length : Int)))) rfl (Option.some.inj hm)

end Go.Fx



set_option linter.unusedVariables false
set_option linter.unusedSimpArgs false
set_option maxRecDepth 100000
set_option maxHeartbeats 0
namespace Go.Fx
open Go Go.RowKit Go.Proofs
def m44_vector_Fits_2 (a : List Int) (fv0_ : List Int) : Option Bool :=
 (m32_vector_below a fv0_).bind fun below_1 =>
 some below_1

theorem c44_vector_Fits_2 {w : World} {O : List Nat} {a : List Int} {fv0_ : List Int} {a_a : Option Addr} {c_a : Nat} {p_fv0_ : Addr} (hO : ∀ k ∈ O, k < w.heap.size) (f_a : SlR (rInt .i64) w O a_a c_a a) (f_fv0_ : PtR (rSl (rInt .i64)) w O p_fv0_ fv0_) {x : Bool} (hm : m44_vector_Fits_2 a fv0_ = some x) :
  Ok Try.prog 44 [(Value.slice a_a a.length c_a), (Value.pointer (some p_fv0_))] w O vB x := by
 unfold m44_vector_Fits_2 at hm
 refine Fn_of_Wp (n := 7) (xs := [.tmp 3]) Try.func44 rfl Try.ntmps44 Try.results44 rfl ?_
 have hs := St.start hO
 refine Wp_seq ?_
 refine Wp_region ?_
 refine Rg_op rfl (op_assign (v := (Value.bool false)) rfl ?_)
 refine Rg_nil ?_
 refine Wp_seq ?_
 refine Wp_region ?_
 refine Rg_op rfl (op_move (v := (Value.slice a_a a.length c_a)) rfl ?_)
 refine Rg_op rfl (op_loadP ty22 rfl f_fv0_ rfl ?_)
 intro v1 h2
 obtain ⟨a_y3, c_y3, rfl, f_y3⟩ := un_sl h2
 replace hm := bd hm; obtain ⟨below_1, hv4, hm⟩ := hm
 refine Rg_op rfl (op_call Try.call32 (c32_vector_below (a := a) (b := fv0_) hs.ltw f_a f_y3 hv4) rfl ?_)
 rintro v5 w6 ⟨hx7, h8⟩
 have hs9 := hs.call hx7
 have p10 := Step.ext (O := ks [] O) hx7
 clear hx7
 replace f_a := f_a.step p10; replace f_fv0_ := f_fv0_.step p10; replace f_y3 := f_y3.step p10; clear p10
 obtain rfl := h8
 refine Rg_op rfl (op_assign (v := (Value.bool below_1)) rfl ?_)
 refine Rg_nil ?_
 refine Wp_ret ?_
 have hz := step_all hs9
 replace f_a := f_a.step hz; replace f_fv0_ := f_fv0_.step hz; replace f_y3 := f_y3.step hz
 refine ⟨_, (show Closes [] _ _ from rfl), [(Value.bool below_1)], ⟨rfl, trivial⟩, hs9.ext, ?_⟩
 exact Vr.eq (a := vB) (x := below_1) rfl (Option.some.inj hm)

end Go.Fx



set_option linter.unusedVariables false
set_option linter.unusedSimpArgs false
set_option maxRecDepth 100000
set_option maxHeartbeats 0
namespace Go.Fx
open Go Go.RowKit Go.Proofs
def m25_vector_Fits (l : List (List Int)) (budget : List Int) : Option (Bool × Int) :=
 (m42_slices_ContainsFuncint_int_ l (some (fun x9 => m43_vector_Fits_1 x9 budget))).bind fun containsfunc_1 =>
 bif containsfunc_1 then
  some (false, 60)
 else
  (m42_slices_ContainsFuncint_int_ l (some (fun x29 => m44_vector_Fits_2 x29 budget))).bind fun containsfunc_2 =>
  some (containsfunc_2, 0)

theorem c25_vector_Fits {w : World} {O : List Nat} {l : List (List Int)} {budget : List Int} {a_l : Option Addr} {c_l : Nat} {a_budget : Option Addr} {c_budget : Nat} (hO : ∀ k ∈ O, k < w.heap.size) (f_l : SlR (rSl (rInt .i64)) w O a_l c_l l) (f_budget : SlR (rInt .i64) w O a_budget c_budget budget) {x : Bool × Int} (hm : m25_vector_Fits l budget = some x) :
  Ok Try.prog 25 [(Value.slice a_l l.length c_l), (Value.slice a_budget budget.length c_budget)] w O (vT2 vB (vI .i64)) x := by
 unfold m25_vector_Fits at hm
 refine Fn_of_Wp (n := 12) (xs := [.tmp 4, .tmp 5]) Try.func25 rfl Try.ntmps25 Try.results25 rfl ?_
 have hs := St.start hO
 refine Wp_seq ?_
 refine Wp_region ?_
 refine Rg_op rfl (op_box (cs := [(Value.slice a_budget budget.length c_budget)]) hs rfl rfl ?_)
 intro b1 w2 _ p3 hs4
 replace f_l := f_l.step p3; replace f_budget := f_budget.step p3; clear p3
 refine Rg_op rfl (op_assign (v := (Value.bool false)) rfl ?_)
 refine Rg_op rfl (op_assign (v := (Value.int .i64 0)) rfl ?_)
 refine Rg_nil ?_
 refine Wp_seq ?_
 refine Wp_seq ?_
 refine Wp_region ?_
 refine Rg_op rfl (op_move (v := (Value.slice a_l l.length c_l)) rfl ?_)
 obtain ⟨hs7, p8, f6⟩ := St.publishP (p := (rSl (rInt .i64))) (i := 0) (x := budget) hs4 rfl (mk_sl f_budget)
 replace f_l := f_l.step p8; replace f_budget := f_budget.step p8; clear p8 hs4
 refine Rg_op rfl (op_makeFunc' (a' := []) (c' := [(Value.pointer (some (⟨b1, 0, none⟩ : Addr)))]) rfl rfl ?_)
 have F10 : CallsTo1 Try.prog w2 (ks [] O) (Value.func (.func 43) #[] #[(Value.pointer (some (⟨b1, 0, none⟩ : Addr)))]) (vC (rSl (rInt .i64))) vB (fun x9 => m43_vector_Fits_1 x9 budget) := by
  intro w11 O12 st13 hO14 v17 x9 y15 h18 hy16
  obtain ⟨a_y19, c_y19, rfl, f_y19⟩ := un_sl h18
  exact ⟨43, #[], #[(Value.pointer (some (⟨b1, 0, none⟩ : Addr)))], rfl, Try.call43, c43_vector_Fits_1 (a := x9) hO14 f_y19 (f6.step st13) hy16⟩
 replace hm := bd hm; obtain ⟨containsfunc_1, hv20, hm⟩ := hm
 refine Rg_op rfl (op_call Try.call42 (c42_slices_ContainsFuncint_int_ (s := l) (f := (some (fun x9 => m43_vector_Fits_1 x9 budget))) hs7.ltw f_l (CallsO1.some_ F10) hv20) rfl ?_)
 rintro v21 w22 ⟨hx23, h24⟩
 have hs25 := hs7.call hx23
 have p26 := Step.ext (O := ks [] O) hx23
 clear hx23
 replace f_l := f_l.step p26; replace f_budget := f_budget.step p26; replace f6 := f6.step p26; replace F10 := F10.step p26; clear p26 hs7
 obtain rfl := h24
 refine Rg_nil ?_
 refine Wp_cond rfl (fun hc28 => ?_) (fun hc28 => ?_)
 ·
  replace hm := bif_t hm hc28
  refine Wp_seq ?_
  clear f_l f_budget f6 F10
  refine Wp_region ?_
  refine Rg_op rfl (op_assign (v := (Value.bool false)) rfl ?_)
  refine Rg_op rfl (op_assign (v := (Value.int .i64 60)) rfl ?_)
  refine Rg_nil ?_
  refine Wp_ret ?_
  have hz := step_all hs25
  refine ⟨_, (show Closes [] _ _ from rfl), [(Value.bool false), (Value.int .i64 60)], ⟨rfl, rfl, trivial⟩, hs25.ext, ?_⟩
  exact Vr.eq (a := (vT2 vB (vI .i64))) (x := (false, 60)) (mkT2 rfl ⟨rfl, (show InK .i64 60 from by decide)⟩) (Option.some.inj hm)
 ·
  replace hm := bif_f hm hc28
  refine Wp_skip ?_
  refine Wp_seq ?_
  clear f_budget F10
  refine Wp_region ?_
  refine Rg_op rfl (op_move (v := (Value.slice a_l l.length c_l)) rfl ?_)
  refine Rg_op rfl (op_makeFunc' (a' := []) (c' := [(Value.pointer (some (⟨b1, 0, none⟩ : Addr)))]) rfl rfl ?_)
  have F30 : CallsTo1 Try.prog w22 (ks [] O) (Value.func (.func 44) #[] #[(Value.pointer (some (⟨b1, 0, none⟩ : Addr)))]) (vC (rSl (rInt .i64))) vB (fun x29 => m44_vector_Fits_2 x29 budget) := by
   intro w31 O32 st33 hO34 v37 x29 y35 h38 hy36
   obtain ⟨a_y39, c_y39, rfl, f_y39⟩ := un_sl h38
   exact ⟨44, #[], #[(Value.pointer (some (⟨b1, 0, none⟩ : Addr)))], rfl, Try.call44, c44_vector_Fits_2 (a := x29) hO34 f_y39 (f6.step st33) hy36⟩
  replace hm := bd hm; obtain ⟨containsfunc_2, hv40, hm⟩ := hm
  refine Rg_op rfl (op_call Try.call42 (c42_slices_ContainsFuncint_int_ (s := l) (f := (some (fun x29 => m44_vector_Fits_2 x29 budget))) hs25.ltw f_l (CallsO1.some_ F30) hv40) rfl ?_)
  rintro v41 w42 ⟨hx43, h44⟩
  have hs45 := hs25.call hx43
  have p46 := Step.ext (O := ks [] O) hx43
  clear hx43
  replace f_l := f_l.step p46; replace f6 := f6.step p46; replace F30 := F30.step p46; clear p46 hs25
  obtain rfl := h44
  refine Rg_op rfl (op_assign (v := (Value.bool containsfunc_2)) rfl ?_)
  refine Rg_op rfl (op_assign (v := (Value.int .i64 0)) rfl ?_)
  refine Rg_nil ?_
  refine Wp_ret ?_
  have hz := step_all hs45
  replace f_l := f_l.step hz; replace f6 := f6.step hz; replace F30 := F30.step hz
  refine ⟨_, (show Closes [] _ _ from rfl), [(Value.bool containsfunc_2), (Value.int .i64 0)], ⟨rfl, rfl, trivial⟩, hs45.ext, ?_⟩
  exact Vr.eq (a := (vT2 vB (vI .i64))) (x := (containsfunc_2, 0)) (mkT2 rfl ⟨rfl, (show InK .i64 0 from by decide)⟩) (Option.some.inj hm)

end Go.Fx



set_option linter.unusedVariables false
set_option linter.unusedSimpArgs false
set_option maxRecDepth 100000
set_option maxHeartbeats 0
namespace Go.Fx
open Go Go.RowKit Go.Proofs
def m27_overflightref06_SameList_B0 (a : List (List Int)) (b : List (List Int)) (sf6 : Int → Option Bool) (i_1 : Int) : Option Bool :=
 bif (decide (i_1 < (a.length : Int))) then
  ck ((0 : Int) ≤ i_1 ∧ i_1 < (a.length : Int)) <|
  ck ((0 : Int) ≤ i_1 ∧ i_1 < (b.length : Int)) <|
  (m19_overflightref06_Same (a.getD i_1.toNat default) (b.getD i_1.toNat default)).bind fun same_1 =>
  bif (!same_1) then
   some false
  else
   sf6 (IntKind.wrap .i64 (i_1 + 1))
 else
  some true

def m27_overflightref06_SameList (a : List (List Int)) (b : List (List Int)) : Option Bool :=
 bif (decide ((a.length : Int) ≠ (b.length : Int))) then
  some false
 else
  loop1 (m27_overflightref06_SameList_B0 a b) (((a.length : Int) - 0).toNat + 1) 0

theorem c27_overflightref06_SameList {w : World} {O : List Nat} {a : List (List Int)} {b : List (List Int)} {a_a : Option Addr} {c_a : Nat} {a_b : Option Addr} {c_b : Nat} (hO : ∀ k ∈ O, k < w.heap.size) (f_a : SlR (rSl (rInt .i64)) w O a_a c_a a) (f_b : SlR (rSl (rInt .i64)) w O a_b c_b b) {x : Bool} (hm : m27_overflightref06_SameList a b = some x) :
  Ok Try.prog 27 [(Value.slice a_a a.length c_a), (Value.slice a_b b.length c_b)] w O vB x := by
 unfold m27_overflightref06_SameList at hm
 refine Fn_of_Wp (n := 27) (xs := [.tmp 4]) Try.func27 rfl Try.ntmps27 Try.results27 rfl ?_
 have hs := St.start hO
 refine Wp_seq ?_
 refine Wp_region ?_
 refine Rg_op rfl (op_assign (v := (Value.bool false)) rfl ?_)
 refine Rg_nil ?_
 refine Wp_seq ?_
 refine Wp_seq ?_
 refine Wp_region ?_
 refine Rg_op rfl (op_move (v := (Value.slice a_a a.length c_a)) rfl ?_)
 refine Rg_op rfl (op_len Try.underlying33 rfl ?_)
 have rl1 := inK_len f_a
 refine Rg_op rfl (op_move (v := (Value.slice a_b b.length c_b)) rfl ?_)
 refine Rg_op rfl (op_len Try.underlying33 rfl ?_)
 have rl2 := inK_len f_b
 refine Rg_op rfl (op_neq rfl rfl ?_)
 refine Rg_nil ?_
 refine Wp_cond rfl (fun hc3 => ?_) (fun hc3 => ?_)
 ·
  replace hm := bif_t hm hc3
  refine Wp_seq ?_
  clear f_a f_b
  refine Wp_region ?_
  refine Rg_op rfl (op_assign (v := (Value.bool false)) rfl ?_)
  refine Rg_nil ?_
  refine Wp_ret ?_
  have hz := step_all hs
  refine ⟨_, (show Closes [] _ _ from rfl), [(Value.bool false)], ⟨rfl, trivial⟩, hs.ext, ?_⟩
  exact Vr.eq (a := vB) (x := false) rfl (Option.some.inj hm)
 ·
  replace hm := bif_f hm hc3
  refine Wp_skip ?_
  refine Wp_seq ?_
  refine Wp_seq ?_
  refine Wp_region ?_
  refine Rg_op rfl (op_assign (v := (Value.int .i64 0)) rfl ?_)
  refine Rg_nil ?_
  refine Wp_block ?_
  refine Wp_reset [] [(0, (Value.slice a_a a.length c_a)), (1, (Value.slice a_b b.length c_b)), (5, (Value.int .i64 0))] rfl ⟨rfl, rfl, rfl, trivial⟩ fun ξ5 => ?_
  refine Wp_loopM [4, 5, 11, 12, 13, 14, 15, 16, 17, 18, 19, 20, 21, 22, 23, 24, 25, 26] (fun m fr w' => ∃ (i_1 : Int) (Ebs : Ents), Ebs = [] ∧ fr [] [(5, (Value.int .i64 i_1))] ∧ Step (ks [] O) w (ks Ebs O) w' ∧ St ⟨w, [], []⟩ O w' Ebs ∧ InK .i64 i_1 ∧ loop1 (m27_overflightref06_SameList_B0 a b) m i_1 = some x) (((a.length : Int) - 0).toNat + 1) ⟨0, _, rfl, ⟨Out.refl _ _, rfl, rfl, trivial⟩, Step.refl _ _, hs, (show InK .i64 0 from by decide), hm⟩ ?_ ?_
  · rintro _ _ ⟨_, _, _, _, _, _, _, hm⟩; exact loop1_z hm
  ·
   rintro m9 K8 hK8 ρ14 w10 ⟨i_1, Ebs, hEbs, hfr13, hst12, hs11, r_y4, hm⟩
   obtain ⟨sf6, hsf7, hm⟩ := loop1_s hm; unfold m27_overflightref06_SameList_B0 at hm
   subst hEbs; rw [hfr13.eq]; clear hfr13
   replace f_a := f_a.step hst12; replace f_b := f_b.step hst12
   have ch15 := hst12
   refine Wp_seq ?_
   refine Wp_seq ?_
   refine Wp_region ?_
   refine Rg_op rfl (op_move (v := (Value.int .i64 i_1)) rfl ?_)
   refine Rg_op rfl (op_move (v := (Value.slice a_a a.length c_a)) rfl ?_)
   refine Rg_op rfl (op_len Try.underlying33 rfl ?_)
   have rl16 := inK_len f_a
   refine Rg_op rfl (op_lss rfl rfl ?_)
   refine Rg_nil ?_
   refine Wp_cond rfl (fun hc17 => ?_) (fun hc17 => ?_)
   ·
    replace hm := bif_t hm hc17
    refine Wp_skip ?_
    refine Wp_seq ?_
    refine Wp_block ?_
    refine Wp_seq ?_
    refine Wp_drawR (g0 := []) (m := 8) (fl := []) (TS_inv hs11) rfl (.inl rfl) rfl (by decide +kernel) ?_  -- 6
    refine Dw_eq (Value.slice a_a a.length c_a) (fun ρ18 w19 g hle hi ht => ?_) ?_
    ·
     obtain ⟨-, hst, -⟩ := hle
     refine StepOp_plain (op_move (v := (Value.slice a_a a.length c_a)) (ht 0 rfl) ?_)
     exact Goes.same hi rfl
    refine Dw_eq (Value.int .i64 i_1) (fun ρ21 w22 g hle hi ht => ?_) ?_
    ·
     obtain ⟨-, hst, -⟩ := hle
     refine StepOp_plain (op_move (v := (Value.int .i64 i_1)) (ht 5 rfl) ?_)
     exact Goes.same hi rfl
    replace hm := ck_some hm; obtain ⟨hc27, hm⟩ := hm
    refine Dw_op (VP O [] (rSl (rInt .i64)) (a.getD i_1.toNat default)) (VP.stab _ _) (fun ρ24 w25 g hle hi ht => ?_) ?_
    ·
     obtain ⟨-, hst, -⟩ := hle
     replace f_a := f_a.step hst
     refine StepOp_plain (op_indexAddr (q := (rSl (rInt .i64))) ty33 ty22 (ht 17 rfl) (ht 18 rfl) f_a rfl hc27.1 hc27.2 ?_)
     intro p28 f29
     exact Goes.same hi ⟨_, rfl, f29⟩
    refine Dw_op (VD O [] (vC (rSl (rInt .i64))) (a.getD i_1.toNat default)) (VD.stab _ _) (fun ρ30 w31 g hle hi ht => ?_) ?_
    ·
     obtain ⟨-, hst, -⟩ := hle
     obtain ⟨p33, q34, f35⟩ := ht 19 rfl
     refine StepOp_plain (op_loadP ty22 q34 f35 rfl ?_)
     intro v36 h37
     obtain ⟨a_y38, c_y38, rfl, f_y38⟩ := un_sl h37
     exact Goes.same hi (show Vr.vd (vC (rSl (rInt .i64))) _ _ _ _ from (mkC (mk_sl f_y38)))
    refine Dw_eq (Value.slice a_b b.length c_b) (fun ρ39 w40 g hle hi ht => ?_) ?_
    ·
     obtain ⟨-, hst, -⟩ := hle
     refine StepOp_plain (op_move (v := (Value.slice a_b b.length c_b)) (ht 1 rfl) ?_)
     exact Goes.same hi rfl
    refine Dw_eq (Value.int .i64 i_1) (fun ρ42 w43 g hle hi ht => ?_) ?_
    ·
     obtain ⟨-, hst, -⟩ := hle
     refine StepOp_plain (op_move (v := (Value.int .i64 i_1)) (ht 5 rfl) ?_)
     exact Goes.same hi rfl
    replace hm := ck_some hm; obtain ⟨hc48, hm⟩ := hm
    refine Dw_op (VP O [] (rSl (rInt .i64)) (b.getD i_1.toNat default)) (VP.stab _ _) (fun ρ45 w46 g hle hi ht => ?_) ?_
    ·
     obtain ⟨-, hst, -⟩ := hle
     replace f_b := f_b.step hst
     refine StepOp_plain (op_indexAddr (q := (rSl (rInt .i64))) ty33 ty22 (ht 21 rfl) (ht 22 rfl) f_b rfl hc48.1 hc48.2 ?_)
     intro p49 f50
     exact Goes.same hi ⟨_, rfl, f50⟩
    refine Dw_op (VD O [] (vC (rSl (rInt .i64))) (b.getD i_1.toNat default)) (VD.stab _ _) (fun ρ51 w52 g hle hi ht => ?_) ?_
    ·
     obtain ⟨-, hst, -⟩ := hle
     obtain ⟨p54, q55, f56⟩ := ht 23 rfl
     refine StepOp_plain (op_loadP ty22 q55 f56 rfl ?_)
     intro v57 h58
     obtain ⟨a_y59, c_y59, rfl, f_y59⟩ := un_sl h58
     exact Goes.same hi (show Vr.vd (vC (rSl (rInt .i64))) _ _ _ _ from (mkC (mk_sl f_y59)))
    refine Dw_nil fun w64 g65 hl66 hi67 => ?_
    obtain ⟨-, hst68, -⟩ := hl66
    obtain ⟨hs70, p69⟩ := Step.nx hi67
    rintro v71 h72
    replace h72 : Vr.vd (vC (rSl (rInt .i64))) _ _ _ _ := h72
    obtain ⟨a_y73, c_y73, rfl, f_y73⟩ := un_sl h72
    rintro _ ⟨p74, rfl, f75⟩
    rintro _ rfl
    rintro _ rfl
    rintro v76 h77
    replace h77 : Vr.vd (vC (rSl (rInt .i64))) _ _ _ _ := h77
    obtain ⟨a_y78, c_y78, rfl, f_y78⟩ := un_sl h77
    rintro _ ⟨p79, rfl, f80⟩
    rintro _ rfl
    rintro _ rfl
    have p81 : Step (ks [] O) w10 (ks [] O) w64 := hst68.trans p69
    replace f_y73 := f_y73.step p69; replace f75 := f75.step p69; replace f_y78 := f_y78.step p69; replace f80 := f80.step p69; replace f_a := f_a.step p81; replace f_b := f_b.step p81; replace ch15 := ch15.trans p81; clear p81 hs11
    replace hm := bd hm; obtain ⟨same_1, hv82, hm⟩ := hm
    refine Rg_op rfl (op_call Try.call19 (c19_overflightref06_Same (a := (a.getD i_1.toNat default)) (b := (b.getD i_1.toNat default)) hs70.ltw f_y78 f_y73 hv82) rfl ?_)
    rintro v83 w84 ⟨hx85, h86⟩
    have hs87 := hs70.call hx85
    have p88 := Step.ext (O := ks [] O) hx85
    clear hx85
    replace f_a := f_a.step p88; replace f_b := f_b.step p88; replace f_y73 := f_y73.step p88; replace f75 := f75.step p88; replace f_y78 := f_y78.step p88; replace f80 := f80.step p88; replace ch15 := ch15.trans p88; clear p88 hs70
    obtain rfl := h86
    refine Rg_op rfl (op_not rfl ?_)
    refine Rg_nil ?_
    refine Wp_cond rfl (fun hc90 => ?_) (fun hc90 => ?_)
    ·
     replace hm := bif_t hm hc90
     refine Wp_seq ?_
     clear f_a f_b f_y73 f75 f_y78 f80
     refine Wp_region ?_
     refine Rg_op rfl (op_assign (v := (Value.bool false)) rfl ?_)
     refine Rg_nil ?_
     refine Wp_ret ?_
     have hz := step_all hs87
     refine ⟨_, (show Closes [] _ _ from rfl), [(Value.bool false)], ⟨rfl, trivial⟩, hs87.ext, ?_⟩
     exact Vr.eq (a := vB) (x := false) rfl (Option.some.inj hm)
    ·
     replace hm := bif_f hm hc90
     refine Wp_skip ?_
     clear f_y73 f75 f_y78 f80
     refine Wp_region ?_
     refine Rg_op rfl (op_move (v := (Value.int .i64 i_1)) rfl ?_)
     refine Rg_op rfl (op_addw rfl rfl ?_)
     refine Rg_op rfl (op_assign (v := (Value.int .i64 (IntKind.wrap .i64 (i_1 + 1)))) rfl ?_)
     refine Rg_nil ?_
     exact hK8 _ _ ⟨(IntKind.wrap .i64 (i_1 + 1)), _, rfl, ⟨(by repeat (first | with_reducible exact Out.refl _ _ | refine Out.upd ?_ rfl | refine Out.updL ?_ rfl | refine Out.mix' ?_ rfl | exact Out.refl _ _)), rfl, rfl, trivial⟩, ch15, hs87, (inK_wrap .i64 _), jnE1 hsf7 hm⟩
   ·
    replace hm := bif_f hm hc17
    refine Wp_exit ?_
    refine Wp_seq ?_
    clear f_a f_b
    refine Wp_region ?_
    refine Rg_op rfl (op_assign (v := (Value.bool true)) rfl ?_)
    refine Rg_nil ?_
    refine Wp_ret ?_
    have hz := step_all hs11
    refine ⟨_, (show Closes [] _ _ from rfl), [(Value.bool true)], ⟨rfl, trivial⟩, hs11.ext, ?_⟩
    exact Vr.eq (a := vB) (x := true) rfl (Option.some.inj hm)

end Go.Fx



set_option linter.unusedVariables false
set_option linter.unusedSimpArgs false
set_option maxRecDepth 100000
set_option maxHeartbeats 0
namespace Go.Fx
open Go Go.RowKit Go.Proofs
def m11_overflightlaw06_sane : Option Bool :=
 (m15_vector_Below [1, 5] [2, 4]).bind fun below_1 =>
 (m17_vector_Compare [1, 5] [2, 4]).bind fun compare_1 =>
 (m17_vector_Compare ([] : List Int) ([] : List Int)).bind fun compare_2 =>
 (m13_vector_Add [1] [1, 2]).bind fun add_1 =>
 (m13_vector_Add [1, 5] [2, (-4)]).bind fun add_2 =>
 (m21_vector_Least [[1, 5], [2, 4], [2, 5], [1, 5]]).bind fun least_1 =>
 (m21_vector_Least ([] : List (List Int))).bind fun least_2 =>
 (m23_vector_Sums ([] : List (List Int)) [[1]]).bind fun sums_1 =>
 (m23_vector_Sums [[1, 5], [2, 4]] [[1, 0], [0, 1]]).bind fun sums_2 =>
 (m25_vector_Fits [[0, 0]] [0, 0]).bind fun fits_1 =>
 (m25_vector_Fits ([] : List (List Int)) [9]).bind fun fits_2 =>
 jn (fun (one_1 : Bool) =>
  jn (fun (v_1 : Bool) =>
   some v_1)
  (fun k384 =>
   bif one_1 then
    bif (decide (least_2.2 = 0)) then
     bif (decide ((least_2.1.length : Int) = 0)) then
      bif (decide (sums_1.2 = 0)) then
       bif (decide ((sums_1.1.length : Int) = 0)) then
        bif (decide (sums_2.2 = 0)) then
         (m27_overflightref06_SameList sums_2.1 [[1, 6], [2, 5], [3, 4]]).bind fun samelist_1 =>
         bif samelist_1 then
          bif (decide (fits_1.2 = 0)) then
           bif fits_1.1 then
            bif (decide (fits_2.2 = 0)) then
             k384 (!fits_2.1)
            else
             k384 false
           else
            k384 false
          else
           k384 false
         else
          k384 false
        else
         k384 false
       else
        k384 false
      else
       k384 false
     else
      k384 false
    else
     k384 false
   else
    k384 false))
 (fun k374 =>
  bif (decide (below_1.2 = 0)) then
   bif (!below_1.1) then
    bif (decide (compare_1.2 = 0)) then
     bif (decide (compare_1.1 = (-1))) then
      bif (decide (compare_2.2 = 0)) then
       bif (decide (compare_2.1 = 0)) then
        bif (decide (add_1.2 = 60)) then
         bif (decide (add_2.2 = 0)) then
          (m19_overflightref06_Same add_2.1 [3, 1]).bind fun same_1 =>
          bif same_1 then
           bif (decide (least_1.2 = 0)) then
            (m27_overflightref06_SameList least_1.1 [[1, 5], [2, 4]]).bind fun samelist_2 =>
            k374 samelist_2
           else
            k374 false
          else
           k374 false
         else
          k374 false
        else
         k374 false
       else
        k374 false
      else
       k374 false
     else
      k374 false
    else
     k374 false
   else
    k374 false
  else
   k374 false)

theorem c11_overflightlaw06_sane {w : World} {O : List Nat} (hO : ∀ k ∈ O, k < w.heap.size) {x : Bool} (hm : m11_overflightlaw06_sane = some x) :
  Ok Try.prog 11 [] w O vB x := by
 unfold m11_overflightlaw06_sane at hm
 refine Fn_of_Wp (n := 185) (xs := [.tmp 0]) Try.func11 rfl Try.ntmps11 Try.results11 rfl ?_
 have hs := St.start hO
 refine Wp_seq ?_
 refine Wp_region ?_
 refine Rg_op rfl (op_assign (v := (Value.bool false)) rfl ?_)
 refine Rg_nil ?_
 refine Wp_seq ?_
 refine Wp_region ?_
 refine Rg_op rfl (op_buildSlice (cs := [(Value.int .i64 1), (Value.int .i64 5)]) (parts := [(0, .const (.int .i64 1)), (1, .const (.int .i64 5))]) ty22 ty3 hs (by decide) rfl ?_)
 intro b1 w2 hx5 p3 hs4
 clear p3
 refine Rg_op rfl (op_buildSlice (cs := [(Value.int .i64 2), (Value.int .i64 4)]) (parts := [(0, .const (.int .i64 2)), (1, .const (.int .i64 4))]) ty22 ty3 hs4 (by decide) rfl ?_)
 intro b7 w8 hx11 p9 hs10
 clear p9 hs4
 obtain ⟨hs14, p15, f13⟩ := St.publish (i := 1) (o := 0) (c := 2) (xs := [1, 5]) hs10 rfl (show Els (rInt .i64) _ _ [(Value.int .i64 1), (Value.int .i64 5)] [1, 5] from ⟨_, _, rfl, (mk_int (show InK .i64 1 from by decide)), ⟨_, _, rfl, (mk_int (show InK .i64 5 from by decide)), Els.nil⟩⟩) (le_lit rfl) (le_lit rfl) (le_lit rfl)
 clear p15 hs10
 obtain ⟨hs17, p18, f16⟩ := St.publish (i := 0) (o := 0) (c := 2) (xs := [2, 4]) hs14 rfl (show Els (rInt .i64) _ _ [(Value.int .i64 2), (Value.int .i64 4)] [2, 4] from ⟨_, _, rfl, (mk_int (show InK .i64 2 from by decide)), ⟨_, _, rfl, (mk_int (show InK .i64 4 from by decide)), Els.nil⟩⟩) (le_lit rfl) (le_lit rfl) (le_lit rfl)
 replace f13 := f13.step p18; clear p18 hs14
 replace hm := bd hm; obtain ⟨below_1, hv19, hm⟩ := hm
 refine Rg_op rfl (op_call Try.call15 (c15_vector_Below (a := [1, 5]) (b := [2, 4]) hs17.ltw f13 f16 hv19) rfl ?_)
 rintro v20 w21 ⟨hx22, h23⟩
 have hs24 := hs17.call hx22
 have p25 := Step.ext (O := ks [] O) hx22
 clear hx22
 replace f13 := f13.step p25; replace f16 := f16.step p25; clear p25 hs17
 obtain ⟨v26, v27, rfl, h28, h29⟩ := h23
 obtain rfl := h28
 obtain ⟨rfl, r_y31⟩ := h29
 refine Rg_op rfl (op_move (v := (Value.tuple [(Value.bool below_1.1), (Value.int .i64 below_1.2)].toArray)) rfl ?_)
 refine Rg_op rfl (op_extract (v := (Value.bool below_1.1)) rfl rfl ?_)
 refine Rg_op rfl (op_extract (v := (Value.int .i64 below_1.2)) rfl rfl ?_)
 refine Rg_op rfl (op_assign (v := (Value.bool below_1.1)) rfl ?_)
 refine Rg_op rfl (op_assign (v := (Value.int .i64 below_1.2)) rfl ?_)
 refine Rg_nil ?_
 refine Wp_seq ?_
 clear f13 f16
 refine Wp_region ?_
 refine Rg_op rfl (op_buildSlice (cs := [(Value.int .i64 1), (Value.int .i64 5)]) (parts := [(0, .const (.int .i64 1)), (1, .const (.int .i64 5))]) ty22 ty3 hs24 (by decide) rfl ?_)
 intro b32 w33 hx36 p34 hs35
 clear p34 hs24
 refine Rg_op rfl (op_buildSlice (cs := [(Value.int .i64 2), (Value.int .i64 4)]) (parts := [(0, .const (.int .i64 2)), (1, .const (.int .i64 4))]) ty22 ty3 hs35 (by decide) rfl ?_)
 intro b38 w39 hx42 p40 hs41
 clear p40 hs35
 obtain ⟨hs45, p46, f44⟩ := St.publish (i := 1) (o := 0) (c := 2) (xs := [1, 5]) hs41 rfl (show Els (rInt .i64) _ _ [(Value.int .i64 1), (Value.int .i64 5)] [1, 5] from ⟨_, _, rfl, (mk_int (show InK .i64 1 from by decide)), ⟨_, _, rfl, (mk_int (show InK .i64 5 from by decide)), Els.nil⟩⟩) (le_lit rfl) (le_lit rfl) (le_lit rfl)
 clear p46 hs41
 obtain ⟨hs48, p49, f47⟩ := St.publish (i := 0) (o := 0) (c := 2) (xs := [2, 4]) hs45 rfl (show Els (rInt .i64) _ _ [(Value.int .i64 2), (Value.int .i64 4)] [2, 4] from ⟨_, _, rfl, (mk_int (show InK .i64 2 from by decide)), ⟨_, _, rfl, (mk_int (show InK .i64 4 from by decide)), Els.nil⟩⟩) (le_lit rfl) (le_lit rfl) (le_lit rfl)
 replace f44 := f44.step p49; clear p49 hs45
 replace hm := bd hm; obtain ⟨compare_1, hv50, hm⟩ := hm
 refine Rg_op rfl (op_call Try.call17 (c17_vector_Compare (a := [1, 5]) (b := [2, 4]) hs48.ltw f44 f47 hv50) rfl ?_)
 rintro v51 w52 ⟨hx53, h54⟩
 have hs55 := hs48.call hx53
 have p56 := Step.ext (O := ks [] O) hx53
 clear hx53
 replace f44 := f44.step p56; replace f47 := f47.step p56; clear p56 hs48
 obtain ⟨v57, v58, rfl, h59, h60⟩ := h54
 obtain ⟨rfl, r_y61⟩ := h59
 obtain ⟨rfl, r_y62⟩ := h60
 refine Rg_op rfl (op_move (v := (Value.tuple [(Value.int .i64 compare_1.1), (Value.int .i64 compare_1.2)].toArray)) rfl ?_)
 refine Rg_op rfl (op_extract (v := (Value.int .i64 compare_1.1)) rfl rfl ?_)
 refine Rg_op rfl (op_extract (v := (Value.int .i64 compare_1.2)) rfl rfl ?_)
 refine Rg_op rfl (op_assign (v := (Value.int .i64 compare_1.1)) rfl ?_)
 refine Rg_op rfl (op_assign (v := (Value.int .i64 compare_1.2)) rfl ?_)
 refine Rg_nil ?_
 refine Wp_seq ?_
 clear f44 f47
 refine Wp_region ?_
 replace hm := bd hm; obtain ⟨compare_2, hv63, hm⟩ := hm
 refine Rg_op rfl (op_call Try.call17 (c17_vector_Compare (a := ([] : List Int)) (b := ([] : List Int)) hs55.ltw SlR.nil_ SlR.nil_ hv63) rfl ?_)
 rintro v64 w65 ⟨hx66, h67⟩
 have hs68 := hs55.call hx66
 have p69 := Step.ext (O := ks [] O) hx66
 clear hx66
 clear p69 hs55
 obtain ⟨v70, v71, rfl, h72, h73⟩ := h67
 obtain ⟨rfl, r_y74⟩ := h72
 obtain ⟨rfl, r_y75⟩ := h73
 refine Rg_op rfl (op_move (v := (Value.tuple [(Value.int .i64 compare_2.1), (Value.int .i64 compare_2.2)].toArray)) rfl ?_)
 refine Rg_op rfl (op_extract (v := (Value.int .i64 compare_2.1)) rfl rfl ?_)
 refine Rg_op rfl (op_extract (v := (Value.int .i64 compare_2.2)) rfl rfl ?_)
 refine Rg_op rfl (op_assign (v := (Value.int .i64 compare_2.1)) rfl ?_)
 refine Rg_op rfl (op_assign (v := (Value.int .i64 compare_2.2)) rfl ?_)
 refine Rg_nil ?_
 refine Wp_seq ?_
 refine Wp_region ?_
 refine Rg_op rfl (op_buildSlice (cs := [(Value.int .i64 1)]) (parts := [(0, .const (.int .i64 1))]) ty22 ty3 hs68 (by decide) rfl ?_)
 intro b76 w77 hx80 p78 hs79
 clear p78 hs68
 refine Rg_op rfl (op_buildSlice (cs := [(Value.int .i64 1), (Value.int .i64 2)]) (parts := [(0, .const (.int .i64 1)), (1, .const (.int .i64 2))]) ty22 ty3 hs79 (by decide) rfl ?_)
 intro b82 w83 hx86 p84 hs85
 clear p84 hs79
 obtain ⟨hs89, p90, f88⟩ := St.publish (i := 1) (o := 0) (c := 1) (xs := [1]) hs85 rfl (show Els (rInt .i64) _ _ [(Value.int .i64 1)] [1] from ⟨_, _, rfl, (mk_int (show InK .i64 1 from by decide)), Els.nil⟩) (le_lit rfl) (le_lit rfl) (le_lit rfl)
 clear p90 hs85
 obtain ⟨hs92, p93, f91⟩ := St.publish (i := 0) (o := 0) (c := 2) (xs := [1, 2]) hs89 rfl (show Els (rInt .i64) _ _ [(Value.int .i64 1), (Value.int .i64 2)] [1, 2] from ⟨_, _, rfl, (mk_int (show InK .i64 1 from by decide)), ⟨_, _, rfl, (mk_int (show InK .i64 2 from by decide)), Els.nil⟩⟩) (le_lit rfl) (le_lit rfl) (le_lit rfl)
 replace f88 := f88.step p93; clear p93 hs89
 replace hm := bd hm; obtain ⟨add_1, hv94, hm⟩ := hm
 refine Rg_op rfl (op_call Try.call13 (c13_vector_Add (a := [1]) (b := [1, 2]) hs92.ltw f88 f91 hv94) rfl ?_)
 rintro v95 w96 ⟨hx97, h98⟩
 have hs99 := hs92.call hx97
 have p100 := Step.ext (O := ks [] O) hx97
 clear hx97
 replace f88 := f88.step p100; replace f91 := f91.step p100; clear p100 hs92
 obtain ⟨v101, v102, rfl, h103, h104⟩ := h98
 obtain ⟨a_y105, c_y105, rfl, f_y105⟩ := un_sl h103
 obtain ⟨rfl, r_y106⟩ := h104
 refine Rg_op rfl (op_move (v := (Value.tuple [(Value.slice a_y105 add_1.1.length c_y105), (Value.int .i64 add_1.2)].toArray)) rfl ?_)
 refine Rg_op rfl (op_extract (v := (Value.slice a_y105 add_1.1.length c_y105)) rfl rfl ?_)
 refine Rg_op rfl (op_extract (v := (Value.int .i64 add_1.2)) rfl rfl ?_)
 refine Rg_op rfl (op_assign (v := (Value.slice a_y105 add_1.1.length c_y105)) rfl ?_)
 refine Rg_op rfl (op_assign (v := (Value.int .i64 add_1.2)) rfl ?_)
 refine Rg_nil ?_
 refine Wp_seq ?_
 clear f88 f91 f_y105
 refine Wp_reset [] [(1, (Value.bool below_1.1)), (2, (Value.int .i64 below_1.2)), (3, (Value.int .i64 compare_1.1)), (4, (Value.int .i64 compare_1.2)), (5, (Value.int .i64 compare_2.1)), (6, (Value.int .i64 compare_2.2)), (8, (Value.int .i64 add_1.2))] rfl ⟨rfl, rfl, rfl, rfl, rfl, rfl, rfl, trivial⟩ fun ξ107 => ?_
 refine Wp_region ?_
 refine Rg_op rfl (op_buildSlice (cs := [(Value.int .i64 1), (Value.int .i64 5)]) (parts := [(0, .const (.int .i64 1)), (1, .const (.int .i64 5))]) ty22 ty3 hs99 (by decide) rfl ?_)
 intro b108 w109 hx112 p110 hs111
 clear p110 hs99
 refine Rg_op rfl (op_buildSlice (cs := [(Value.int .i64 2), (Value.int .i64 (-4))]) (parts := [(0, .const (.int .i64 2)), (1, .const (.int .i64 (-4)))]) ty22 ty3 hs111 (by decide) rfl ?_)
 intro b114 w115 hx118 p116 hs117
 clear p116 hs111
 obtain ⟨hs121, p122, f120⟩ := St.publish (i := 1) (o := 0) (c := 2) (xs := [1, 5]) hs117 rfl (show Els (rInt .i64) _ _ [(Value.int .i64 1), (Value.int .i64 5)] [1, 5] from ⟨_, _, rfl, (mk_int (show InK .i64 1 from by decide)), ⟨_, _, rfl, (mk_int (show InK .i64 5 from by decide)), Els.nil⟩⟩) (le_lit rfl) (le_lit rfl) (le_lit rfl)
 clear p122 hs117
 obtain ⟨hs124, p125, f123⟩ := St.publish (i := 0) (o := 0) (c := 2) (xs := [2, (-4)]) hs121 rfl (show Els (rInt .i64) _ _ [(Value.int .i64 2), (Value.int .i64 (-4))] [2, (-4)] from ⟨_, _, rfl, (mk_int (show InK .i64 2 from by decide)), ⟨_, _, rfl, (mk_int (show InK .i64 (-4) from by decide)), Els.nil⟩⟩) (le_lit rfl) (le_lit rfl) (le_lit rfl)
 replace f120 := f120.step p125; clear p125 hs121
 replace hm := bd hm; obtain ⟨add_2, hv126, hm⟩ := hm
 refine Rg_op rfl (op_call Try.call13 (c13_vector_Add (a := [1, 5]) (b := [2, (-4)]) hs124.ltw f120 f123 hv126) rfl ?_)
 rintro v127 w128 ⟨hx129, h130⟩
 have hs131 := hs124.call hx129
 have p132 := Step.ext (O := ks [] O) hx129
 clear hx129
 replace f120 := f120.step p132; replace f123 := f123.step p132; clear p132 hs124
 obtain ⟨v133, v134, rfl, h135, h136⟩ := h130
 obtain ⟨a_y137, c_y137, rfl, f_y137⟩ := un_sl h135
 obtain ⟨rfl, r_y138⟩ := h136
 refine Rg_op rfl (op_move (v := (Value.tuple [(Value.slice a_y137 add_2.1.length c_y137), (Value.int .i64 add_2.2)].toArray)) rfl ?_)
 refine Rg_op rfl (op_extract (v := (Value.slice a_y137 add_2.1.length c_y137)) rfl rfl ?_)
 refine Rg_op rfl (op_extract (v := (Value.int .i64 add_2.2)) rfl rfl ?_)
 refine Rg_op rfl (op_assign (v := (Value.slice a_y137 add_2.1.length c_y137)) rfl ?_)
 refine Rg_op rfl (op_assign (v := (Value.int .i64 add_2.2)) rfl ?_)
 refine Rg_nil ?_
 refine Wp_seq ?_
 clear f120 f123
 refine Wp_region ?_
 refine Rg_op rfl (op_buildSlice (cs := [(Value.int .i64 1), (Value.int .i64 5)]) (parts := [(0, .const (.int .i64 1)), (1, .const (.int .i64 5))]) ty22 ty3 hs131 (by decide) rfl ?_)
 intro b139 w140 hx143 p141 hs142
 replace f_y137 := f_y137.step p141; clear p141 hs131
 refine Rg_op rfl (op_buildSlice (cs := [(Value.int .i64 2), (Value.int .i64 4)]) (parts := [(0, .const (.int .i64 2)), (1, .const (.int .i64 4))]) ty22 ty3 hs142 (by decide) rfl ?_)
 intro b145 w146 hx149 p147 hs148
 replace f_y137 := f_y137.step p147; clear p147 hs142
 refine Rg_op rfl (op_buildSlice (cs := [(Value.int .i64 2), (Value.int .i64 5)]) (parts := [(0, .const (.int .i64 2)), (1, .const (.int .i64 5))]) ty22 ty3 hs148 (by decide) rfl ?_)
 intro b151 w152 hx155 p153 hs154
 replace f_y137 := f_y137.step p153; clear p153 hs148
 refine Rg_op rfl (op_buildSlice (cs := [(Value.int .i64 1), (Value.int .i64 5)]) (parts := [(0, .const (.int .i64 1)), (1, .const (.int .i64 5))]) ty22 ty3 hs154 (by decide) rfl ?_)
 intro b157 w158 hx161 p159 hs160
 replace f_y137 := f_y137.step p159; clear p159 hs154
 obtain ⟨hs164, p165, f163⟩ := St.publish (i := 3) (o := 0) (c := 2) (xs := [1, 5]) hs160 rfl (show Els (rInt .i64) _ _ [(Value.int .i64 1), (Value.int .i64 5)] [1, 5] from ⟨_, _, rfl, (mk_int (show InK .i64 1 from by decide)), ⟨_, _, rfl, (mk_int (show InK .i64 5 from by decide)), Els.nil⟩⟩) (le_lit rfl) (le_lit rfl) (le_lit rfl)
 replace f_y137 := f_y137.step p165; clear p165 hs160
 obtain ⟨hs167, p168, f166⟩ := St.publish (i := 2) (o := 0) (c := 2) (xs := [2, 4]) hs164 rfl (show Els (rInt .i64) _ _ [(Value.int .i64 2), (Value.int .i64 4)] [2, 4] from ⟨_, _, rfl, (mk_int (show InK .i64 2 from by decide)), ⟨_, _, rfl, (mk_int (show InK .i64 4 from by decide)), Els.nil⟩⟩) (le_lit rfl) (le_lit rfl) (le_lit rfl)
 replace f_y137 := f_y137.step p168; replace f163 := f163.step p168; clear p168 hs164
 obtain ⟨hs170, p171, f169⟩ := St.publish (i := 1) (o := 0) (c := 2) (xs := [2, 5]) hs167 rfl (show Els (rInt .i64) _ _ [(Value.int .i64 2), (Value.int .i64 5)] [2, 5] from ⟨_, _, rfl, (mk_int (show InK .i64 2 from by decide)), ⟨_, _, rfl, (mk_int (show InK .i64 5 from by decide)), Els.nil⟩⟩) (le_lit rfl) (le_lit rfl) (le_lit rfl)
 replace f_y137 := f_y137.step p171; replace f163 := f163.step p171; replace f166 := f166.step p171; clear p171 hs167
 obtain ⟨hs173, p174, f172⟩ := St.publish (i := 0) (o := 0) (c := 2) (xs := [1, 5]) hs170 rfl (show Els (rInt .i64) _ _ [(Value.int .i64 1), (Value.int .i64 5)] [1, 5] from ⟨_, _, rfl, (mk_int (show InK .i64 1 from by decide)), ⟨_, _, rfl, (mk_int (show InK .i64 5 from by decide)), Els.nil⟩⟩) (le_lit rfl) (le_lit rfl) (le_lit rfl)
 replace f_y137 := f_y137.step p174; replace f163 := f163.step p174; replace f166 := f166.step p174; replace f169 := f169.step p174; clear p174 hs170
 refine Rg_op rfl (op_buildSlice (cs := [(Value.slice (some ⟨b139, 0, none⟩) [1, 5].length 2), (Value.slice (some ⟨b145, 0, none⟩) [2, 4].length 2), (Value.slice (some ⟨b151, 0, none⟩) [2, 5].length 2), (Value.slice (some ⟨b157, 0, none⟩) [1, 5].length 2)]) (parts := [(0, .tmp 53), (1, .tmp 54), (2, .tmp 55), (3, .tmp 56)]) ty33 ty22 hs173 (by decide) rfl ?_)
 intro b175 w176 hx179 p177 hs178
 replace f_y137 := f_y137.step p177; replace f163 := f163.step p177; replace f166 := f166.step p177; replace f169 := f169.step p177; replace f172 := f172.step p177; clear p177 hs173
 obtain ⟨hs182, p183, f181⟩ := St.publish (i := 0) (o := 0) (c := 4) (xs := [[1, 5], [2, 4], [2, 5], [1, 5]]) hs178 rfl (show Els (rSl (rInt .i64)) _ _ [(Value.slice (some ⟨b139, 0, none⟩) [1, 5].length 2), (Value.slice (some ⟨b145, 0, none⟩) [2, 4].length 2), (Value.slice (some ⟨b151, 0, none⟩) [2, 5].length 2), (Value.slice (some ⟨b157, 0, none⟩) [1, 5].length 2)] [[1, 5], [2, 4], [2, 5], [1, 5]] from ⟨_, _, rfl, (mk_sl f163), ⟨_, _, rfl, (mk_sl f166), ⟨_, _, rfl, (mk_sl f169), ⟨_, _, rfl, (mk_sl f172), Els.nil⟩⟩⟩⟩) (le_lit rfl) (le_lit rfl) (le_lit rfl)
 replace f_y137 := f_y137.step p183; replace f163 := f163.step p183; replace f166 := f166.step p183; replace f169 := f169.step p183; replace f172 := f172.step p183; clear p183 hs178
 replace hm := bd hm; obtain ⟨least_1, hv184, hm⟩ := hm
 refine Rg_op rfl (op_call Try.call21 (c21_vector_Least (l := [[1, 5], [2, 4], [2, 5], [1, 5]]) hs182.ltw f181 hv184) rfl ?_)
 rintro v185 w186 ⟨hx187, h188⟩
 have hs189 := hs182.call hx187
 have p190 := Step.ext (O := ks [] O) hx187
 clear hx187
 replace f_y137 := f_y137.step p190; replace f163 := f163.step p190; replace f166 := f166.step p190; replace f169 := f169.step p190; replace f172 := f172.step p190; replace f181 := f181.step p190; clear p190 hs182
 obtain ⟨v191, v192, rfl, h193, h194⟩ := h188
 obtain ⟨a_y195, c_y195, rfl, f_y195⟩ := un_sl h193
 obtain ⟨rfl, r_y196⟩ := h194
 refine Rg_op rfl (op_move (v := (Value.tuple [(Value.slice a_y195 least_1.1.length c_y195), (Value.int .i64 least_1.2)].toArray)) rfl ?_)
 refine Rg_op rfl (op_extract (v := (Value.slice a_y195 least_1.1.length c_y195)) rfl rfl ?_)
 refine Rg_op rfl (op_extract (v := (Value.int .i64 least_1.2)) rfl rfl ?_)
 refine Rg_op rfl (op_assign (v := (Value.slice a_y195 least_1.1.length c_y195)) rfl ?_)
 refine Rg_op rfl (op_assign (v := (Value.int .i64 least_1.2)) rfl ?_)
 refine Rg_nil ?_
 refine Wp_seq ?_
 clear f163 f166 f169 f172 f181
 refine Wp_region ?_
 replace hm := bd hm; obtain ⟨least_2, hv197, hm⟩ := hm
 refine Rg_op rfl (op_call Try.call21 (c21_vector_Least (l := ([] : List (List Int))) hs189.ltw SlR.nil_ hv197) rfl ?_)
 rintro v198 w199 ⟨hx200, h201⟩
 have hs202 := hs189.call hx200
 have p203 := Step.ext (O := ks [] O) hx200
 clear hx200
 replace f_y137 := f_y137.step p203; replace f_y195 := f_y195.step p203; clear p203 hs189
 obtain ⟨v204, v205, rfl, h206, h207⟩ := h201
 obtain ⟨a_y208, c_y208, rfl, f_y208⟩ := un_sl h206
 obtain ⟨rfl, r_y209⟩ := h207
 refine Rg_op rfl (op_move (v := (Value.tuple [(Value.slice a_y208 least_2.1.length c_y208), (Value.int .i64 least_2.2)].toArray)) rfl ?_)
 refine Rg_op rfl (op_extract (v := (Value.slice a_y208 least_2.1.length c_y208)) rfl rfl ?_)
 refine Rg_op rfl (op_extract (v := (Value.int .i64 least_2.2)) rfl rfl ?_)
 refine Rg_op rfl (op_assign (v := (Value.slice a_y208 least_2.1.length c_y208)) rfl ?_)
 refine Rg_op rfl (op_assign (v := (Value.int .i64 least_2.2)) rfl ?_)
 refine Rg_nil ?_
 refine Wp_seq ?_
 refine Wp_reset [] [(1, (Value.bool below_1.1)), (2, (Value.int .i64 below_1.2)), (3, (Value.int .i64 compare_1.1)), (4, (Value.int .i64 compare_1.2)), (5, (Value.int .i64 compare_2.1)), (6, (Value.int .i64 compare_2.2)), (8, (Value.int .i64 add_1.2)), (9, (Value.slice a_y137 add_2.1.length c_y137)), (10, (Value.int .i64 add_2.2)), (11, (Value.slice a_y195 least_1.1.length c_y195)), (12, (Value.int .i64 least_1.2)), (13, (Value.slice a_y208 least_2.1.length c_y208)), (14, (Value.int .i64 least_2.2))] rfl ⟨rfl, rfl, rfl, rfl, rfl, rfl, rfl, rfl, rfl, rfl, rfl, rfl, rfl, trivial⟩ fun ξ210 => ?_
 refine Wp_region ?_
 refine Rg_op rfl (op_buildSlice (cs := [(Value.int .i64 1)]) (parts := [(0, .const (.int .i64 1))]) ty22 ty3 hs202 (by decide) rfl ?_)
 intro b211 w212 hx215 p213 hs214
 replace f_y137 := f_y137.step p213; replace f_y195 := f_y195.step p213; replace f_y208 := f_y208.step p213; clear p213 hs202
 obtain ⟨hs218, p219, f217⟩ := St.publish (i := 0) (o := 0) (c := 1) (xs := [1]) hs214 rfl (show Els (rInt .i64) _ _ [(Value.int .i64 1)] [1] from ⟨_, _, rfl, (mk_int (show InK .i64 1 from by decide)), Els.nil⟩) (le_lit rfl) (le_lit rfl) (le_lit rfl)
 replace f_y137 := f_y137.step p219; replace f_y195 := f_y195.step p219; replace f_y208 := f_y208.step p219; clear p219 hs214
 refine Rg_op rfl (op_buildSlice (cs := [(Value.slice (some ⟨b211, 0, none⟩) [1].length 1)]) (parts := [(0, .tmp 66)]) ty33 ty22 hs218 (by decide) rfl ?_)
 intro b220 w221 hx224 p222 hs223
 replace f_y137 := f_y137.step p222; replace f_y195 := f_y195.step p222; replace f_y208 := f_y208.step p222; replace f217 := f217.step p222; clear p222 hs218
 obtain ⟨hs227, p228, f226⟩ := St.publish (i := 0) (o := 0) (c := 1) (xs := [[1]]) hs223 rfl (show Els (rSl (rInt .i64)) _ _ [(Value.slice (some ⟨b211, 0, none⟩) [1].length 1)] [[1]] from ⟨_, _, rfl, (mk_sl f217), Els.nil⟩) (le_lit rfl) (le_lit rfl) (le_lit rfl)
 replace f_y137 := f_y137.step p228; replace f_y195 := f_y195.step p228; replace f_y208 := f_y208.step p228; replace f217 := f217.step p228; clear p228 hs223
 replace hm := bd hm; obtain ⟨sums_1, hv229, hm⟩ := hm
 refine Rg_op rfl (op_call Try.call23 (c23_vector_Sums (a := ([] : List (List Int))) (b := [[1]]) hs227.ltw SlR.nil_ f226 hv229) rfl ?_)
 rintro v230 w231 ⟨hx232, h233⟩
 have hs234 := hs227.call hx232
 have p235 := Step.ext (O := ks [] O) hx232
 clear hx232
 replace f_y137 := f_y137.step p235; replace f_y195 := f_y195.step p235; replace f_y208 := f_y208.step p235; replace f217 := f217.step p235; replace f226 := f226.step p235; clear p235 hs227
 obtain ⟨v236, v237, rfl, h238, h239⟩ := h233
 obtain ⟨a_y240, c_y240, rfl, f_y240⟩ := un_sl h238
 obtain ⟨rfl, r_y241⟩ := h239
 refine Rg_op rfl (op_move (v := (Value.tuple [(Value.slice a_y240 sums_1.1.length c_y240), (Value.int .i64 sums_1.2)].toArray)) rfl ?_)
 refine Rg_op rfl (op_extract (v := (Value.slice a_y240 sums_1.1.length c_y240)) rfl rfl ?_)
 refine Rg_op rfl (op_extract (v := (Value.int .i64 sums_1.2)) rfl rfl ?_)
 refine Rg_op rfl (op_assign (v := (Value.slice a_y240 sums_1.1.length c_y240)) rfl ?_)
 refine Rg_op rfl (op_assign (v := (Value.int .i64 sums_1.2)) rfl ?_)
 refine Rg_nil ?_
 refine Wp_seq ?_
 clear f217 f226
 refine Wp_region ?_
 refine Rg_op rfl (op_buildSlice (cs := [(Value.int .i64 1), (Value.int .i64 5)]) (parts := [(0, .const (.int .i64 1)), (1, .const (.int .i64 5))]) ty22 ty3 hs234 (by decide) rfl ?_)
 intro b242 w243 hx246 p244 hs245
 replace f_y137 := f_y137.step p244; replace f_y195 := f_y195.step p244; replace f_y208 := f_y208.step p244; replace f_y240 := f_y240.step p244; clear p244 hs234
 refine Rg_op rfl (op_buildSlice (cs := [(Value.int .i64 2), (Value.int .i64 4)]) (parts := [(0, .const (.int .i64 2)), (1, .const (.int .i64 4))]) ty22 ty3 hs245 (by decide) rfl ?_)
 intro b248 w249 hx252 p250 hs251
 replace f_y137 := f_y137.step p250; replace f_y195 := f_y195.step p250; replace f_y208 := f_y208.step p250; replace f_y240 := f_y240.step p250; clear p250 hs245
 obtain ⟨hs255, p256, f254⟩ := St.publish (i := 1) (o := 0) (c := 2) (xs := [1, 5]) hs251 rfl (show Els (rInt .i64) _ _ [(Value.int .i64 1), (Value.int .i64 5)] [1, 5] from ⟨_, _, rfl, (mk_int (show InK .i64 1 from by decide)), ⟨_, _, rfl, (mk_int (show InK .i64 5 from by decide)), Els.nil⟩⟩) (le_lit rfl) (le_lit rfl) (le_lit rfl)
 replace f_y137 := f_y137.step p256; replace f_y195 := f_y195.step p256; replace f_y208 := f_y208.step p256; replace f_y240 := f_y240.step p256; clear p256 hs251
 obtain ⟨hs258, p259, f257⟩ := St.publish (i := 0) (o := 0) (c := 2) (xs := [2, 4]) hs255 rfl (show Els (rInt .i64) _ _ [(Value.int .i64 2), (Value.int .i64 4)] [2, 4] from ⟨_, _, rfl, (mk_int (show InK .i64 2 from by decide)), ⟨_, _, rfl, (mk_int (show InK .i64 4 from by decide)), Els.nil⟩⟩) (le_lit rfl) (le_lit rfl) (le_lit rfl)
 replace f_y137 := f_y137.step p259; replace f_y195 := f_y195.step p259; replace f_y208 := f_y208.step p259; replace f_y240 := f_y240.step p259; replace f254 := f254.step p259; clear p259 hs255
 refine Rg_op rfl (op_buildSlice (cs := [(Value.slice (some ⟨b242, 0, none⟩) [1, 5].length 2), (Value.slice (some ⟨b248, 0, none⟩) [2, 4].length 2)]) (parts := [(0, .tmp 72), (1, .tmp 73)]) ty33 ty22 hs258 (by decide) rfl ?_)
 intro b260 w261 hx264 p262 hs263
 replace f_y137 := f_y137.step p262; replace f_y195 := f_y195.step p262; replace f_y208 := f_y208.step p262; replace f_y240 := f_y240.step p262; replace f254 := f254.step p262; replace f257 := f257.step p262; clear p262 hs258
 refine Rg_op rfl (op_buildSlice (cs := [(Value.int .i64 1), (Value.int .i64 0)]) (parts := [(0, .const (.int .i64 1)), (1, .const (.int .i64 0))]) ty22 ty3 hs263 (by decide) rfl ?_)
 intro b266 w267 hx270 p268 hs269
 replace f_y137 := f_y137.step p268; replace f_y195 := f_y195.step p268; replace f_y208 := f_y208.step p268; replace f_y240 := f_y240.step p268; replace f254 := f254.step p268; replace f257 := f257.step p268; clear p268 hs263
 refine Rg_op rfl (op_buildSlice (cs := [(Value.int .i64 0), (Value.int .i64 1)]) (parts := [(0, .const (.int .i64 0)), (1, .const (.int .i64 1))]) ty22 ty3 hs269 (by decide) rfl ?_)
 intro b272 w273 hx276 p274 hs275
 replace f_y137 := f_y137.step p274; replace f_y195 := f_y195.step p274; replace f_y208 := f_y208.step p274; replace f_y240 := f_y240.step p274; replace f254 := f254.step p274; replace f257 := f257.step p274; clear p274 hs269
 obtain ⟨hs279, p280, f278⟩ := St.publish (i := 1) (o := 0) (c := 2) (xs := [1, 0]) hs275 rfl (show Els (rInt .i64) _ _ [(Value.int .i64 1), (Value.int .i64 0)] [1, 0] from ⟨_, _, rfl, (mk_int (show InK .i64 1 from by decide)), ⟨_, _, rfl, (mk_int (show InK .i64 0 from by decide)), Els.nil⟩⟩) (le_lit rfl) (le_lit rfl) (le_lit rfl)
 replace f_y137 := f_y137.step p280; replace f_y195 := f_y195.step p280; replace f_y208 := f_y208.step p280; replace f_y240 := f_y240.step p280; replace f254 := f254.step p280; replace f257 := f257.step p280; clear p280 hs275
 obtain ⟨hs282, p283, f281⟩ := St.publish (i := 0) (o := 0) (c := 2) (xs := [0, 1]) hs279 rfl (show Els (rInt .i64) _ _ [(Value.int .i64 0), (Value.int .i64 1)] [0, 1] from ⟨_, _, rfl, (mk_int (show InK .i64 0 from by decide)), ⟨_, _, rfl, (mk_int (show InK .i64 1 from by decide)), Els.nil⟩⟩) (le_lit rfl) (le_lit rfl) (le_lit rfl)
 replace f_y137 := f_y137.step p283; replace f_y195 := f_y195.step p283; replace f_y208 := f_y208.step p283; replace f_y240 := f_y240.step p283; replace f254 := f254.step p283; replace f257 := f257.step p283; replace f278 := f278.step p283; clear p283 hs279
 refine Rg_op rfl (op_buildSlice (cs := [(Value.slice (some ⟨b266, 0, none⟩) [1, 0].length 2), (Value.slice (some ⟨b272, 0, none⟩) [0, 1].length 2)]) (parts := [(0, .tmp 75), (1, .tmp 76)]) ty33 ty22 hs282 (by decide) rfl ?_)
 intro b284 w285 hx288 p286 hs287
 replace f_y137 := f_y137.step p286; replace f_y195 := f_y195.step p286; replace f_y208 := f_y208.step p286; replace f_y240 := f_y240.step p286; replace f254 := f254.step p286; replace f257 := f257.step p286; replace f278 := f278.step p286; replace f281 := f281.step p286; clear p286 hs282
 obtain ⟨hs291, p292, f290⟩ := St.publish (i := 1) (o := 0) (c := 2) (xs := [[1, 5], [2, 4]]) hs287 rfl (show Els (rSl (rInt .i64)) _ _ [(Value.slice (some ⟨b242, 0, none⟩) [1, 5].length 2), (Value.slice (some ⟨b248, 0, none⟩) [2, 4].length 2)] [[1, 5], [2, 4]] from ⟨_, _, rfl, (mk_sl f254), ⟨_, _, rfl, (mk_sl f257), Els.nil⟩⟩) (le_lit rfl) (le_lit rfl) (le_lit rfl)
 replace f_y137 := f_y137.step p292; replace f_y195 := f_y195.step p292; replace f_y208 := f_y208.step p292; replace f_y240 := f_y240.step p292; replace f254 := f254.step p292; replace f257 := f257.step p292; replace f278 := f278.step p292; replace f281 := f281.step p292; clear p292 hs287
 obtain ⟨hs294, p295, f293⟩ := St.publish (i := 0) (o := 0) (c := 2) (xs := [[1, 0], [0, 1]]) hs291 rfl (show Els (rSl (rInt .i64)) _ _ [(Value.slice (some ⟨b266, 0, none⟩) [1, 0].length 2), (Value.slice (some ⟨b272, 0, none⟩) [0, 1].length 2)] [[1, 0], [0, 1]] from ⟨_, _, rfl, (mk_sl f278), ⟨_, _, rfl, (mk_sl f281), Els.nil⟩⟩) (le_lit rfl) (le_lit rfl) (le_lit rfl)
 replace f_y137 := f_y137.step p295; replace f_y195 := f_y195.step p295; replace f_y208 := f_y208.step p295; replace f_y240 := f_y240.step p295; replace f254 := f254.step p295; replace f257 := f257.step p295; replace f278 := f278.step p295; replace f281 := f281.step p295; replace f290 := f290.step p295; clear p295 hs291
 replace hm := bd hm; obtain ⟨sums_2, hv296, hm⟩ := hm
 refine Rg_op rfl (op_call Try.call23 (c23_vector_Sums (a := [[1, 5], [2, 4]]) (b := [[1, 0], [0, 1]]) hs294.ltw f290 f293 hv296) rfl ?_)
 rintro v297 w298 ⟨hx299, h300⟩
 have hs301 := hs294.call hx299
 have p302 := Step.ext (O := ks [] O) hx299
 clear hx299
 replace f_y137 := f_y137.step p302; replace f_y195 := f_y195.step p302; replace f_y208 := f_y208.step p302; replace f_y240 := f_y240.step p302; replace f254 := f254.step p302; replace f257 := f257.step p302; replace f278 := f278.step p302; replace f281 := f281.step p302; replace f290 := f290.step p302; replace f293 := f293.step p302; clear p302 hs294
 obtain ⟨v303, v304, rfl, h305, h306⟩ := h300
 obtain ⟨a_y307, c_y307, rfl, f_y307⟩ := un_sl h305
 obtain ⟨rfl, r_y308⟩ := h306
 refine Rg_op rfl (op_move (v := (Value.tuple [(Value.slice a_y307 sums_2.1.length c_y307), (Value.int .i64 sums_2.2)].toArray)) rfl ?_)
 refine Rg_op rfl (op_extract (v := (Value.slice a_y307 sums_2.1.length c_y307)) rfl rfl ?_)
 refine Rg_op rfl (op_extract (v := (Value.int .i64 sums_2.2)) rfl rfl ?_)
 refine Rg_op rfl (op_assign (v := (Value.slice a_y307 sums_2.1.length c_y307)) rfl ?_)
 refine Rg_op rfl (op_assign (v := (Value.int .i64 sums_2.2)) rfl ?_)
 refine Rg_nil ?_
 refine Wp_seq ?_
 clear f254 f257 f278 f281 f290 f293
 refine Wp_region ?_
 refine Rg_op rfl (op_buildSlice (cs := [(Value.int .i64 0), (Value.int .i64 0)]) (parts := [(0, .const (.int .i64 0)), (1, .const (.int .i64 0))]) ty22 ty3 hs301 (by decide) rfl ?_)
 intro b309 w310 hx313 p311 hs312
 replace f_y137 := f_y137.step p311; replace f_y195 := f_y195.step p311; replace f_y208 := f_y208.step p311; replace f_y240 := f_y240.step p311; replace f_y307 := f_y307.step p311; clear p311 hs301
 obtain ⟨hs316, p317, f315⟩ := St.publish (i := 0) (o := 0) (c := 2) (xs := [0, 0]) hs312 rfl (show Els (rInt .i64) _ _ [(Value.int .i64 0), (Value.int .i64 0)] [0, 0] from ⟨_, _, rfl, (mk_int (show InK .i64 0 from by decide)), ⟨_, _, rfl, (mk_int (show InK .i64 0 from by decide)), Els.nil⟩⟩) (le_lit rfl) (le_lit rfl) (le_lit rfl)
 replace f_y137 := f_y137.step p317; replace f_y195 := f_y195.step p317; replace f_y208 := f_y208.step p317; replace f_y240 := f_y240.step p317; replace f_y307 := f_y307.step p317; clear p317 hs312
 refine Rg_op rfl (op_buildSlice (cs := [(Value.slice (some ⟨b309, 0, none⟩) [0, 0].length 2)]) (parts := [(0, .tmp 82)]) ty33 ty22 hs316 (by decide) rfl ?_)
 intro b318 w319 hx322 p320 hs321
 replace f_y137 := f_y137.step p320; replace f_y195 := f_y195.step p320; replace f_y208 := f_y208.step p320; replace f_y240 := f_y240.step p320; replace f_y307 := f_y307.step p320; replace f315 := f315.step p320; clear p320 hs316
 refine Rg_op rfl (op_buildSlice (cs := [(Value.int .i64 0), (Value.int .i64 0)]) (parts := [(0, .const (.int .i64 0)), (1, .const (.int .i64 0))]) ty22 ty3 hs321 (by decide) rfl ?_)
 intro b324 w325 hx328 p326 hs327
 replace f_y137 := f_y137.step p326; replace f_y195 := f_y195.step p326; replace f_y208 := f_y208.step p326; replace f_y240 := f_y240.step p326; replace f_y307 := f_y307.step p326; replace f315 := f315.step p326; clear p326 hs321
 obtain ⟨hs331, p332, f330⟩ := St.publish (i := 1) (o := 0) (c := 1) (xs := [[0, 0]]) hs327 rfl (show Els (rSl (rInt .i64)) _ _ [(Value.slice (some ⟨b309, 0, none⟩) [0, 0].length 2)] [[0, 0]] from ⟨_, _, rfl, (mk_sl f315), Els.nil⟩) (le_lit rfl) (le_lit rfl) (le_lit rfl)
 replace f_y137 := f_y137.step p332; replace f_y195 := f_y195.step p332; replace f_y208 := f_y208.step p332; replace f_y240 := f_y240.step p332; replace f_y307 := f_y307.step p332; replace f315 := f315.step p332; clear p332 hs327
 obtain ⟨hs334, p335, f333⟩ := St.publish (i := 0) (o := 0) (c := 2) (xs := [0, 0]) hs331 rfl (show Els (rInt .i64) _ _ [(Value.int .i64 0), (Value.int .i64 0)] [0, 0] from ⟨_, _, rfl, (mk_int (show InK .i64 0 from by decide)), ⟨_, _, rfl, (mk_int (show InK .i64 0 from by decide)), Els.nil⟩⟩) (le_lit rfl) (le_lit rfl) (le_lit rfl)
 replace f_y137 := f_y137.step p335; replace f_y195 := f_y195.step p335; replace f_y208 := f_y208.step p335; replace f_y240 := f_y240.step p335; replace f_y307 := f_y307.step p335; replace f315 := f315.step p335; replace f330 := f330.step p335; clear p335 hs331
 replace hm := bd hm; obtain ⟨fits_1, hv336, hm⟩ := hm
 refine Rg_op rfl (op_call Try.call25 (c25_vector_Fits (l := [[0, 0]]) (budget := [0, 0]) hs334.ltw f330 f333 hv336) rfl ?_)
 rintro v337 w338 ⟨hx339, h340⟩
 have hs341 := hs334.call hx339
 have p342 := Step.ext (O := ks [] O) hx339
 clear hx339
 replace f_y137 := f_y137.step p342; replace f_y195 := f_y195.step p342; replace f_y208 := f_y208.step p342; replace f_y240 := f_y240.step p342; replace f_y307 := f_y307.step p342; replace f315 := f315.step p342; replace f330 := f330.step p342; replace f333 := f333.step p342; clear p342 hs334
 obtain ⟨v343, v344, rfl, h345, h346⟩ := h340
 obtain rfl := h345
 obtain ⟨rfl, r_y348⟩ := h346
 refine Rg_op rfl (op_move (v := (Value.tuple [(Value.bool fits_1.1), (Value.int .i64 fits_1.2)].toArray)) rfl ?_)
 refine Rg_op rfl (op_extract (v := (Value.bool fits_1.1)) rfl rfl ?_)
 refine Rg_op rfl (op_extract (v := (Value.int .i64 fits_1.2)) rfl rfl ?_)
 refine Rg_op rfl (op_assign (v := (Value.bool fits_1.1)) rfl ?_)
 refine Rg_op rfl (op_assign (v := (Value.int .i64 fits_1.2)) rfl ?_)
 refine Rg_nil ?_
 refine Wp_seq ?_
 clear f315 f330 f333
 refine Wp_reset [] [(1, (Value.bool below_1.1)), (2, (Value.int .i64 below_1.2)), (3, (Value.int .i64 compare_1.1)), (4, (Value.int .i64 compare_1.2)), (5, (Value.int .i64 compare_2.1)), (6, (Value.int .i64 compare_2.2)), (8, (Value.int .i64 add_1.2)), (9, (Value.slice a_y137 add_2.1.length c_y137)), (10, (Value.int .i64 add_2.2)), (11, (Value.slice a_y195 least_1.1.length c_y195)), (12, (Value.int .i64 least_1.2)), (13, (Value.slice a_y208 least_2.1.length c_y208)), (14, (Value.int .i64 least_2.2)), (15, (Value.slice a_y240 sums_1.1.length c_y240)), (16, (Value.int .i64 sums_1.2)), (17, (Value.slice a_y307 sums_2.1.length c_y307)), (18, (Value.int .i64 sums_2.2)), (19, (Value.bool fits_1.1)), (20, (Value.int .i64 fits_1.2))] rfl ⟨rfl, rfl, rfl, rfl, rfl, rfl, rfl, rfl, rfl, rfl, rfl, rfl, rfl, rfl, rfl, rfl, rfl, rfl, rfl, trivial⟩ fun ξ349 => ?_
 refine Wp_region ?_
 refine Rg_op rfl (op_buildSlice (cs := [(Value.int .i64 9)]) (parts := [(0, .const (.int .i64 9))]) ty22 ty3 hs341 (by decide) rfl ?_)
 intro b350 w351 hx354 p352 hs353
 replace f_y137 := f_y137.step p352; replace f_y195 := f_y195.step p352; replace f_y208 := f_y208.step p352; replace f_y240 := f_y240.step p352; replace f_y307 := f_y307.step p352; clear p352 hs341
 obtain ⟨hs357, p358, f356⟩ := St.publish (i := 0) (o := 0) (c := 1) (xs := [9]) hs353 rfl (show Els (rInt .i64) _ _ [(Value.int .i64 9)] [9] from ⟨_, _, rfl, (mk_int (show InK .i64 9 from by decide)), Els.nil⟩) (le_lit rfl) (le_lit rfl) (le_lit rfl)
 replace f_y137 := f_y137.step p358; replace f_y195 := f_y195.step p358; replace f_y208 := f_y208.step p358; replace f_y240 := f_y240.step p358; replace f_y307 := f_y307.step p358; clear p358 hs353
 replace hm := bd hm; obtain ⟨fits_2, hv359, hm⟩ := hm
 refine Rg_op rfl (op_call Try.call25 (c25_vector_Fits (l := ([] : List (List Int))) (budget := [9]) hs357.ltw SlR.nil_ f356 hv359) rfl ?_)
 rintro v360 w361 ⟨hx362, h363⟩
 have hs364 := hs357.call hx362
 have p365 := Step.ext (O := ks [] O) hx362
 clear hx362
 replace f_y137 := f_y137.step p365; replace f_y195 := f_y195.step p365; replace f_y208 := f_y208.step p365; replace f_y240 := f_y240.step p365; replace f_y307 := f_y307.step p365; replace f356 := f356.step p365; clear p365 hs357
 obtain ⟨v366, v367, rfl, h368, h369⟩ := h363
 obtain rfl := h368
 obtain ⟨rfl, r_y371⟩ := h369
 refine Rg_op rfl (op_move (v := (Value.tuple [(Value.bool fits_2.1), (Value.int .i64 fits_2.2)].toArray)) rfl ?_)
 refine Rg_op rfl (op_extract (v := (Value.bool fits_2.1)) rfl rfl ?_)
 refine Rg_op rfl (op_extract (v := (Value.int .i64 fits_2.2)) rfl rfl ?_)
 refine Rg_op rfl (op_assign (v := (Value.bool fits_2.1)) rfl ?_)
 refine Rg_op rfl (op_assign (v := (Value.int .i64 fits_2.2)) rfl ?_)
 refine Rg_nil ?_
 refine Wp_reset [] [(1, (Value.bool below_1.1)), (2, (Value.int .i64 below_1.2)), (3, (Value.int .i64 compare_1.1)), (4, (Value.int .i64 compare_1.2)), (5, (Value.int .i64 compare_2.1)), (6, (Value.int .i64 compare_2.2)), (8, (Value.int .i64 add_1.2)), (9, (Value.slice a_y137 add_2.1.length c_y137)), (10, (Value.int .i64 add_2.2)), (11, (Value.slice a_y195 least_1.1.length c_y195)), (12, (Value.int .i64 least_1.2)), (13, (Value.slice a_y208 least_2.1.length c_y208)), (14, (Value.int .i64 least_2.2)), (15, (Value.slice a_y240 sums_1.1.length c_y240)), (16, (Value.int .i64 sums_1.2)), (17, (Value.slice a_y307 sums_2.1.length c_y307)), (18, (Value.int .i64 sums_2.2)), (19, (Value.bool fits_1.1)), (20, (Value.int .i64 fits_1.2)), (21, (Value.bool fits_2.1)), (22, (Value.int .i64 fits_2.2))] rfl ⟨rfl, rfl, rfl, rfl, rfl, rfl, rfl, rfl, rfl, rfl, rfl, rfl, rfl, rfl, rfl, rfl, rfl, rfl, rfl, rfl, rfl, trivial⟩ fun ξ372 => ?_
 replace hm := jn_elim hm; obtain ⟨k374, hk375, hm⟩ := hm
 refine Wp_seqJ [23, 93, 94, 95, 96, 97, 98, 99, 100, 101, 102, 103, 104, 105, 106, 107, 108, 109, 110, 111, 112, 113, 114, 115, 116, 117, 118, 119, 120, 121, 122, 123, 124, 125, 126, 127, 128, 129, 130, 131, 132, 133, 134, 135, 136, 137, 138] (fun fr w' => ∃ (one_1 : Bool) (Ebs : Ents), Ebs = [] ∧ fr [] [(23, (Value.bool one_1))] ∧ Step (ks [] O) w361 (ks Ebs O) w' ∧ St ⟨w, [], []⟩ O w' Ebs ∧ k374 one_1 = some x) ?_ ?_
 ·
  rintro ρ381 w377 ⟨one_1, Ebs, hEbs, hfr380, hst379, hs378, hm⟩
  replace hm := jnE1 hk375 hm
  subst hEbs; rw [hfr380.eq]; clear hfr380
  replace f_y137 := f_y137.step hst379; replace f_y195 := f_y195.step hst379; replace f_y208 := f_y208.step hst379; replace f_y240 := f_y240.step hst379; replace f_y307 := f_y307.step hst379; replace f356 := f356.step hst379; clear hst379 hs364
  refine Wp_reset [] [(13, (Value.slice a_y208 least_2.1.length c_y208)), (14, (Value.int .i64 least_2.2)), (15, (Value.slice a_y240 sums_1.1.length c_y240)), (16, (Value.int .i64 sums_1.2)), (17, (Value.slice a_y307 sums_2.1.length c_y307)), (18, (Value.int .i64 sums_2.2)), (19, (Value.bool fits_1.1)), (20, (Value.int .i64 fits_1.2)), (21, (Value.bool fits_2.1)), (22, (Value.int .i64 fits_2.2)), (23, (Value.bool one_1))] rfl ⟨rfl, rfl, rfl, rfl, rfl, rfl, rfl, rfl, rfl, rfl, rfl, trivial⟩ fun ξ382 => ?_
  replace hm := jn_elim hm; obtain ⟨k384, hk385, hm⟩ := hm
  refine Wp_seqJ [0, 139, 140, 141, 142, 143, 144, 145, 146, 147, 148, 149, 150, 151, 152, 153, 154, 155, 156, 157, 158, 159, 160, 161, 162, 163, 164, 165, 166, 167, 168, 169, 170, 171, 172, 173, 174, 175, 176, 177, 178, 179, 180, 181, 182, 183, 184] (fun fr w' => ∃ (v_1 : Bool) (Ebs : Ents), Ebs = [] ∧ fr [] [(0, (Value.bool v_1))] ∧ Step (ks [] O) w377 (ks Ebs O) w' ∧ St ⟨w, [], []⟩ O w' Ebs ∧ k384 v_1 = some x) ?_ ?_
  ·
   rintro ρ391 w387 ⟨v_1, Ebs, hEbs, hfr390, hst389, hs388, hm⟩
   replace hm := jnE1 hk385 hm
   subst hEbs; rw [hfr390.eq]; clear hfr390
   replace f_y137 := f_y137.step hst389; replace f_y195 := f_y195.step hst389; replace f_y208 := f_y208.step hst389; replace f_y240 := f_y240.step hst389; replace f_y307 := f_y307.step hst389; replace f356 := f356.step hst389; clear hst389 hs378
   refine Wp_ret ?_
   have hz := step_all hs388
   replace f_y137 := f_y137.step hz; replace f_y195 := f_y195.step hz; replace f_y208 := f_y208.step hz; replace f_y240 := f_y240.step hz; replace f_y307 := f_y307.step hz; replace f356 := f356.step hz
   refine ⟨_, (show Closes [] _ _ from rfl), [(Value.bool v_1)], ⟨rfl, trivial⟩, hs388.ext, ?_⟩
   exact Vr.eq (a := vB) (x := v_1) rfl (Option.some.inj hm)
  ·
   intro K386 hK386
   have ch392 := Step.refl (ks [] O) w377
   clear f_y137 f_y195 f356
   refine Wp_region ?_
   refine Rg_op rfl (op_move (v := (Value.bool one_1)) rfl ?_)
   refine Rg_op rfl (op_move (v := (Value.bool one_1)) rfl ?_)
   refine Rg_case (fun hg393 => ?_) (fun hg393 => ?_)
   ·
    replace hm := bif_t hm hg393
    refine Rg_opg rfl rfl rfl (op_move (v := (Value.int .i64 least_2.2)) rfl ?_)
    refine Rg_opg rfl rfl rfl (op_eql rfl rfl ?_)
    refine Rg_op rfl (op_pick_t (v := (Value.bool (decide (least_2.2 = 0)))) rfl rfl ?_)
    refine Rg_op rfl (op_move (v := (Value.bool (decide (least_2.2 = 0)))) rfl ?_)
    refine Rg_case (fun hg394 => ?_) (fun hg394 => ?_)
    ·
     replace hm := bif_t hm hg394
     refine Rg_opg rfl rfl rfl (op_move (v := (Value.slice a_y208 least_2.1.length c_y208)) rfl ?_)
     refine Rg_opg rfl rfl rfl (op_len Try.underlying33 rfl ?_)
     have rl395 := inK_len f_y208
     refine Rg_opg rfl rfl rfl (op_eql rfl rfl ?_)
     refine Rg_op rfl (op_pick_t (v := (Value.bool (decide ((least_2.1.length : Int) = 0)))) rfl rfl ?_)
     refine Rg_op rfl (op_move (v := (Value.bool (decide ((least_2.1.length : Int) = 0)))) rfl ?_)
     refine Rg_case (fun hg396 => ?_) (fun hg396 => ?_)
     ·
      replace hm := bif_t hm hg396
      refine Rg_opg rfl rfl rfl (op_move (v := (Value.int .i64 sums_1.2)) rfl ?_)
      refine Rg_opg rfl rfl rfl (op_eql rfl rfl ?_)
      refine Rg_op rfl (op_pick_t (v := (Value.bool (decide (sums_1.2 = 0)))) rfl rfl ?_)
      refine Rg_op rfl (op_move (v := (Value.bool (decide (sums_1.2 = 0)))) rfl ?_)
      refine Rg_case (fun hg397 => ?_) (fun hg397 => ?_)
      ·
       replace hm := bif_t hm hg397
       refine Rg_opg rfl rfl rfl (op_move (v := (Value.slice a_y240 sums_1.1.length c_y240)) rfl ?_)
       refine Rg_opg rfl rfl rfl (op_len Try.underlying33 rfl ?_)
       have rl398 := inK_len f_y240
       refine Rg_opg rfl rfl rfl (op_eql rfl rfl ?_)
       refine Rg_op rfl (op_pick_t (v := (Value.bool (decide ((sums_1.1.length : Int) = 0)))) rfl rfl ?_)
       refine Rg_op rfl (op_move (v := (Value.bool (decide ((sums_1.1.length : Int) = 0)))) rfl ?_)
       refine Rg_case (fun hg399 => ?_) (fun hg399 => ?_)
       ·
        replace hm := bif_t hm hg399
        refine Rg_opg rfl rfl rfl (op_move (v := (Value.int .i64 sums_2.2)) rfl ?_)
        refine Rg_opg rfl rfl rfl (op_eql rfl rfl ?_)
        refine Rg_op rfl (op_pick_t (v := (Value.bool (decide (sums_2.2 = 0)))) rfl rfl ?_)
        refine Rg_op rfl (op_move (v := (Value.bool (decide (sums_2.2 = 0)))) rfl ?_)
        refine Rg_case (fun hg400 => ?_) (fun hg400 => ?_)
        ·
         replace hm := bif_t hm hg400
         refine Rg_opg rfl rfl rfl (op_move (v := (Value.slice a_y307 sums_2.1.length c_y307)) rfl ?_)
         refine Rg_opg rfl rfl rfl (op_buildSlice (cs := [(Value.int .i64 1), (Value.int .i64 6)]) (parts := [(0, .const (.int .i64 1)), (1, .const (.int .i64 6))]) ty22 ty3 hs378 (by decide) rfl ?_)
         intro b401 w402 hx405 p403 hs404
         replace f_y208 := f_y208.step p403; replace f_y240 := f_y240.step p403; replace f_y307 := f_y307.step p403; replace ch392 := ch392.trans p403; clear p403 hs378
         refine Rg_opg rfl rfl rfl (op_buildSlice (cs := [(Value.int .i64 2), (Value.int .i64 5)]) (parts := [(0, .const (.int .i64 2)), (1, .const (.int .i64 5))]) ty22 ty3 hs404 (by decide) rfl ?_)
         intro b407 w408 hx411 p409 hs410
         replace f_y208 := f_y208.step p409; replace f_y240 := f_y240.step p409; replace f_y307 := f_y307.step p409; replace ch392 := ch392.trans p409; clear p409 hs404
         refine Rg_opg rfl rfl rfl (op_buildSlice (cs := [(Value.int .i64 3), (Value.int .i64 4)]) (parts := [(0, .const (.int .i64 3)), (1, .const (.int .i64 4))]) ty22 ty3 hs410 (by decide) rfl ?_)
         intro b413 w414 hx417 p415 hs416
         replace f_y208 := f_y208.step p415; replace f_y240 := f_y240.step p415; replace f_y307 := f_y307.step p415; replace ch392 := ch392.trans p415; clear p415 hs410
         obtain ⟨hs420, p421, f419⟩ := St.publish (i := 2) (o := 0) (c := 2) (xs := [1, 6]) hs416 rfl (show Els (rInt .i64) _ _ [(Value.int .i64 1), (Value.int .i64 6)] [1, 6] from ⟨_, _, rfl, (mk_int (show InK .i64 1 from by decide)), ⟨_, _, rfl, (mk_int (show InK .i64 6 from by decide)), Els.nil⟩⟩) (le_lit rfl) (le_lit rfl) (le_lit rfl)
         replace f_y208 := f_y208.step p421; replace f_y240 := f_y240.step p421; replace f_y307 := f_y307.step p421; replace ch392 := ch392.trans p421; clear p421 hs416
         obtain ⟨hs423, p424, f422⟩ := St.publish (i := 1) (o := 0) (c := 2) (xs := [2, 5]) hs420 rfl (show Els (rInt .i64) _ _ [(Value.int .i64 2), (Value.int .i64 5)] [2, 5] from ⟨_, _, rfl, (mk_int (show InK .i64 2 from by decide)), ⟨_, _, rfl, (mk_int (show InK .i64 5 from by decide)), Els.nil⟩⟩) (le_lit rfl) (le_lit rfl) (le_lit rfl)
         replace f_y208 := f_y208.step p424; replace f_y240 := f_y240.step p424; replace f_y307 := f_y307.step p424; replace f419 := f419.step p424; replace ch392 := ch392.trans p424; clear p424 hs420
         obtain ⟨hs426, p427, f425⟩ := St.publish (i := 0) (o := 0) (c := 2) (xs := [3, 4]) hs423 rfl (show Els (rInt .i64) _ _ [(Value.int .i64 3), (Value.int .i64 4)] [3, 4] from ⟨_, _, rfl, (mk_int (show InK .i64 3 from by decide)), ⟨_, _, rfl, (mk_int (show InK .i64 4 from by decide)), Els.nil⟩⟩) (le_lit rfl) (le_lit rfl) (le_lit rfl)
         replace f_y208 := f_y208.step p427; replace f_y240 := f_y240.step p427; replace f_y307 := f_y307.step p427; replace f419 := f419.step p427; replace f422 := f422.step p427; replace ch392 := ch392.trans p427; clear p427 hs423
         refine Rg_opg rfl rfl rfl (op_buildSlice (cs := [(Value.slice (some ⟨b401, 0, none⟩) [1, 6].length 2), (Value.slice (some ⟨b407, 0, none⟩) [2, 5].length 2), (Value.slice (some ⟨b413, 0, none⟩) [3, 4].length 2)]) (parts := [(0, .tmp 164), (1, .tmp 165), (2, .tmp 166)]) ty33 ty22 hs426 (by decide) rfl ?_)
         intro b428 w429 hx432 p430 hs431
         replace f_y208 := f_y208.step p430; replace f_y240 := f_y240.step p430; replace f_y307 := f_y307.step p430; replace f419 := f419.step p430; replace f422 := f422.step p430; replace f425 := f425.step p430; replace ch392 := ch392.trans p430; clear p430 hs426
         obtain ⟨hs435, p436, f434⟩ := St.publish (i := 0) (o := 0) (c := 3) (xs := [[1, 6], [2, 5], [3, 4]]) hs431 rfl (show Els (rSl (rInt .i64)) _ _ [(Value.slice (some ⟨b401, 0, none⟩) [1, 6].length 2), (Value.slice (some ⟨b407, 0, none⟩) [2, 5].length 2), (Value.slice (some ⟨b413, 0, none⟩) [3, 4].length 2)] [[1, 6], [2, 5], [3, 4]] from ⟨_, _, rfl, (mk_sl f419), ⟨_, _, rfl, (mk_sl f422), ⟨_, _, rfl, (mk_sl f425), Els.nil⟩⟩⟩) (le_lit rfl) (le_lit rfl) (le_lit rfl)
         replace f_y208 := f_y208.step p436; replace f_y240 := f_y240.step p436; replace f_y307 := f_y307.step p436; replace f419 := f419.step p436; replace f422 := f422.step p436; replace f425 := f425.step p436; replace ch392 := ch392.trans p436; clear p436 hs431
         replace hm := bd hm; obtain ⟨samelist_1, hv437, hm⟩ := hm
         refine Rg_opg rfl rfl rfl (op_call Try.call27 (c27_overflightref06_SameList (a := sums_2.1) (b := [[1, 6], [2, 5], [3, 4]]) hs435.ltw f_y307 f434 hv437) rfl ?_)
         rintro v438 w439 ⟨hx440, h441⟩
         have hs442 := hs435.call hx440
         have p443 := Step.ext (O := ks [] O) hx440
         clear hx440
         replace f_y208 := f_y208.step p443; replace f_y240 := f_y240.step p443; replace f_y307 := f_y307.step p443; replace f419 := f419.step p443; replace f422 := f422.step p443; replace f425 := f425.step p443; replace f434 := f434.step p443; replace ch392 := ch392.trans p443; clear p443 hs435
         obtain rfl := h441
         refine Rg_op rfl (op_pick_t (v := (Value.bool samelist_1)) rfl rfl ?_)
         refine Rg_op rfl (op_move (v := (Value.bool samelist_1)) rfl ?_)
         refine Rg_case (fun hg445 => ?_) (fun hg445 => ?_)
         ·
          replace hm := bif_t hm hg445
          refine Rg_opg rfl rfl rfl (op_move (v := (Value.int .i64 fits_1.2)) rfl ?_)
          refine Rg_opg rfl rfl rfl (op_eql rfl rfl ?_)
          refine Rg_op rfl (op_pick_t (v := (Value.bool (decide (fits_1.2 = 0)))) rfl rfl ?_)
          refine Rg_op rfl (op_move (v := (Value.bool (decide (fits_1.2 = 0)))) rfl ?_)
          refine Rg_case (fun hg446 => ?_) (fun hg446 => ?_)
          ·
           replace hm := bif_t hm hg446
           refine Rg_opg rfl rfl rfl (op_move (v := (Value.bool fits_1.1)) rfl ?_)
           refine Rg_op rfl (op_pick_t (v := (Value.bool fits_1.1)) rfl rfl ?_)
           refine Rg_op rfl (op_move (v := (Value.bool fits_1.1)) rfl ?_)
           refine Rg_case (fun hg447 => ?_) (fun hg447 => ?_)
           ·
            replace hm := bif_t hm hg447
            refine Rg_opg rfl rfl rfl (op_move (v := (Value.int .i64 fits_2.2)) rfl ?_)
            refine Rg_opg rfl rfl rfl (op_eql rfl rfl ?_)
            refine Rg_op rfl (op_pick_t (v := (Value.bool (decide (fits_2.2 = 0)))) rfl rfl ?_)
            refine Rg_op rfl (op_move (v := (Value.bool (decide (fits_2.2 = 0)))) rfl ?_)
            refine Rg_case (fun hg448 => ?_) (fun hg448 => ?_)
            ·
             replace hm := bif_t hm hg448
             refine Rg_opg rfl rfl rfl (op_move (v := (Value.bool fits_2.1)) rfl ?_)
             refine Rg_opg rfl rfl rfl (op_not rfl ?_)
             refine Rg_op rfl (op_pick_t (v := (Value.bool (!fits_2.1))) rfl rfl ?_)
             refine Rg_op rfl (op_assign (v := (Value.bool (!fits_2.1))) rfl ?_)
             refine Rg_nil ?_
             exact hK386 _ _ ⟨(!fits_2.1), _, rfl, ⟨(by repeat (first | with_reducible exact Out.refl _ _ | refine Out.upd ?_ rfl | refine Out.updL ?_ rfl | refine Out.mix' ?_ rfl | exact Out.refl _ _)), rfl, rfl, trivial⟩, ch392, hs442, hm⟩
            ·
             replace hm := bif_f hm hg448
             iterate 2 refine Rg_opx rfl (asB_ne rfl rfl) rfl ?_
             refine Rg_op rfl (op_pick_f (v := (Value.bool false)) rfl rfl ?_)
             refine Rg_op rfl (op_assign (v := (Value.bool false)) rfl ?_)
             refine Rg_nil ?_
             exact hK386 _ _ ⟨false, _, rfl, ⟨(by repeat (first | with_reducible exact Out.refl _ _ | refine Out.upd ?_ rfl | refine Out.updL ?_ rfl | refine Out.mix' ?_ rfl | exact Out.refl _ _)), rfl, rfl, trivial⟩, ch392, hs442, hm⟩
           ·
            replace hm := bif_f hm hg447
            iterate 2 refine Rg_opx rfl (asB_ne rfl rfl) rfl ?_
            refine Rg_op rfl (op_pick_f (v := (Value.bool false)) rfl rfl ?_)
            refine Rg_op rfl (op_move (v := (Value.bool false)) rfl ?_)
            iterate 2 refine Rg_opx rfl (asB_ne rfl rfl) rfl ?_
            refine Rg_op rfl (op_pick_f (v := (Value.bool false)) rfl rfl ?_)
            refine Rg_op rfl (op_assign (v := (Value.bool false)) rfl ?_)
            refine Rg_nil ?_
            exact hK386 _ _ ⟨false, _, rfl, ⟨(by repeat (first | with_reducible exact Out.refl _ _ | refine Out.upd ?_ rfl | refine Out.updL ?_ rfl | refine Out.mix' ?_ rfl | exact Out.refl _ _)), rfl, rfl, trivial⟩, ch392, hs442, hm⟩
          ·
           replace hm := bif_f hm hg446
           refine Rg_opx rfl (asB_ne rfl rfl) rfl ?_
           refine Rg_op rfl (op_pick_f (v := (Value.bool false)) rfl rfl ?_)
           refine Rg_op rfl (op_move (v := (Value.bool false)) rfl ?_)
           iterate 2 refine Rg_opx rfl (asB_ne rfl rfl) rfl ?_
           refine Rg_op rfl (op_pick_f (v := (Value.bool false)) rfl rfl ?_)
           refine Rg_op rfl (op_move (v := (Value.bool false)) rfl ?_)
           iterate 2 refine Rg_opx rfl (asB_ne rfl rfl) rfl ?_
           refine Rg_op rfl (op_pick_f (v := (Value.bool false)) rfl rfl ?_)
           refine Rg_op rfl (op_assign (v := (Value.bool false)) rfl ?_)
           refine Rg_nil ?_
           exact hK386 _ _ ⟨false, _, rfl, ⟨(by repeat (first | with_reducible exact Out.refl _ _ | refine Out.upd ?_ rfl | refine Out.updL ?_ rfl | refine Out.mix' ?_ rfl | exact Out.refl _ _)), rfl, rfl, trivial⟩, ch392, hs442, hm⟩
         ·
          replace hm := bif_f hm hg445
          iterate 2 refine Rg_opx rfl (asB_ne rfl rfl) rfl ?_
          refine Rg_op rfl (op_pick_f (v := (Value.bool false)) rfl rfl ?_)
          refine Rg_op rfl (op_move (v := (Value.bool false)) rfl ?_)
          refine Rg_opx rfl (asB_ne rfl rfl) rfl ?_
          refine Rg_op rfl (op_pick_f (v := (Value.bool false)) rfl rfl ?_)
          refine Rg_op rfl (op_move (v := (Value.bool false)) rfl ?_)
          iterate 2 refine Rg_opx rfl (asB_ne rfl rfl) rfl ?_
          refine Rg_op rfl (op_pick_f (v := (Value.bool false)) rfl rfl ?_)
          refine Rg_op rfl (op_move (v := (Value.bool false)) rfl ?_)
          iterate 2 refine Rg_opx rfl (asB_ne rfl rfl) rfl ?_
          refine Rg_op rfl (op_pick_f (v := (Value.bool false)) rfl rfl ?_)
          refine Rg_op rfl (op_assign (v := (Value.bool false)) rfl ?_)
          refine Rg_nil ?_
          exact hK386 _ _ ⟨false, _, rfl, ⟨(by repeat (first | with_reducible exact Out.refl _ _ | refine Out.upd ?_ rfl | refine Out.updL ?_ rfl | refine Out.mix' ?_ rfl | exact Out.refl _ _)), rfl, rfl, trivial⟩, ch392, hs442, hm⟩
        ·
         replace hm := bif_f hm hg400
         iterate 6 refine Rg_opx rfl (asB_ne rfl rfl) rfl ?_
         refine Rg_op rfl (op_pick_f (v := (Value.bool false)) rfl rfl ?_)
         refine Rg_op rfl (op_move (v := (Value.bool false)) rfl ?_)
         iterate 2 refine Rg_opx rfl (asB_ne rfl rfl) rfl ?_
         refine Rg_op rfl (op_pick_f (v := (Value.bool false)) rfl rfl ?_)
         refine Rg_op rfl (op_move (v := (Value.bool false)) rfl ?_)
         refine Rg_opx rfl (asB_ne rfl rfl) rfl ?_
         refine Rg_op rfl (op_pick_f (v := (Value.bool false)) rfl rfl ?_)
         refine Rg_op rfl (op_move (v := (Value.bool false)) rfl ?_)
         iterate 2 refine Rg_opx rfl (asB_ne rfl rfl) rfl ?_
         refine Rg_op rfl (op_pick_f (v := (Value.bool false)) rfl rfl ?_)
         refine Rg_op rfl (op_move (v := (Value.bool false)) rfl ?_)
         iterate 2 refine Rg_opx rfl (asB_ne rfl rfl) rfl ?_
         refine Rg_op rfl (op_pick_f (v := (Value.bool false)) rfl rfl ?_)
         refine Rg_op rfl (op_assign (v := (Value.bool false)) rfl ?_)
         refine Rg_nil ?_
         exact hK386 _ _ ⟨false, _, rfl, ⟨(by repeat (first | with_reducible exact Out.refl _ _ | refine Out.upd ?_ rfl | refine Out.updL ?_ rfl | refine Out.mix' ?_ rfl | exact Out.refl _ _)), rfl, rfl, trivial⟩, ch392, hs378, hm⟩
       ·
        replace hm := bif_f hm hg399
        iterate 2 refine Rg_opx rfl (asB_ne rfl rfl) rfl ?_
        refine Rg_op rfl (op_pick_f (v := (Value.bool false)) rfl rfl ?_)
        refine Rg_op rfl (op_move (v := (Value.bool false)) rfl ?_)
        iterate 6 refine Rg_opx rfl (asB_ne rfl rfl) rfl ?_
        refine Rg_op rfl (op_pick_f (v := (Value.bool false)) rfl rfl ?_)
        refine Rg_op rfl (op_move (v := (Value.bool false)) rfl ?_)
        iterate 2 refine Rg_opx rfl (asB_ne rfl rfl) rfl ?_
        refine Rg_op rfl (op_pick_f (v := (Value.bool false)) rfl rfl ?_)
        refine Rg_op rfl (op_move (v := (Value.bool false)) rfl ?_)
        refine Rg_opx rfl (asB_ne rfl rfl) rfl ?_
        refine Rg_op rfl (op_pick_f (v := (Value.bool false)) rfl rfl ?_)
        refine Rg_op rfl (op_move (v := (Value.bool false)) rfl ?_)
        iterate 2 refine Rg_opx rfl (asB_ne rfl rfl) rfl ?_
        refine Rg_op rfl (op_pick_f (v := (Value.bool false)) rfl rfl ?_)
        refine Rg_op rfl (op_move (v := (Value.bool false)) rfl ?_)
        iterate 2 refine Rg_opx rfl (asB_ne rfl rfl) rfl ?_
        refine Rg_op rfl (op_pick_f (v := (Value.bool false)) rfl rfl ?_)
        refine Rg_op rfl (op_assign (v := (Value.bool false)) rfl ?_)
        refine Rg_nil ?_
        exact hK386 _ _ ⟨false, _, rfl, ⟨(by repeat (first | with_reducible exact Out.refl _ _ | refine Out.upd ?_ rfl | refine Out.updL ?_ rfl | refine Out.mix' ?_ rfl | exact Out.refl _ _)), rfl, rfl, trivial⟩, ch392, hs378, hm⟩
      ·
       replace hm := bif_f hm hg397
       iterate 3 refine Rg_opx rfl (asB_ne rfl rfl) rfl ?_
       refine Rg_op rfl (op_pick_f (v := (Value.bool false)) rfl rfl ?_)
       refine Rg_op rfl (op_move (v := (Value.bool false)) rfl ?_)
       iterate 2 refine Rg_opx rfl (asB_ne rfl rfl) rfl ?_
       refine Rg_op rfl (op_pick_f (v := (Value.bool false)) rfl rfl ?_)
       refine Rg_op rfl (op_move (v := (Value.bool false)) rfl ?_)
       iterate 6 refine Rg_opx rfl (asB_ne rfl rfl) rfl ?_
       refine Rg_op rfl (op_pick_f (v := (Value.bool false)) rfl rfl ?_)
       refine Rg_op rfl (op_move (v := (Value.bool false)) rfl ?_)
       iterate 2 refine Rg_opx rfl (asB_ne rfl rfl) rfl ?_
       refine Rg_op rfl (op_pick_f (v := (Value.bool false)) rfl rfl ?_)
       refine Rg_op rfl (op_move (v := (Value.bool false)) rfl ?_)
       refine Rg_opx rfl (asB_ne rfl rfl) rfl ?_
       refine Rg_op rfl (op_pick_f (v := (Value.bool false)) rfl rfl ?_)
       refine Rg_op rfl (op_move (v := (Value.bool false)) rfl ?_)
       iterate 2 refine Rg_opx rfl (asB_ne rfl rfl) rfl ?_
       refine Rg_op rfl (op_pick_f (v := (Value.bool false)) rfl rfl ?_)
       refine Rg_op rfl (op_move (v := (Value.bool false)) rfl ?_)
       iterate 2 refine Rg_opx rfl (asB_ne rfl rfl) rfl ?_
       refine Rg_op rfl (op_pick_f (v := (Value.bool false)) rfl rfl ?_)
       refine Rg_op rfl (op_assign (v := (Value.bool false)) rfl ?_)
       refine Rg_nil ?_
       exact hK386 _ _ ⟨false, _, rfl, ⟨(by repeat (first | with_reducible exact Out.refl _ _ | refine Out.upd ?_ rfl | refine Out.updL ?_ rfl | refine Out.mix' ?_ rfl | exact Out.refl _ _)), rfl, rfl, trivial⟩, ch392, hs378, hm⟩
     ·
      replace hm := bif_f hm hg396
      iterate 2 refine Rg_opx rfl (asB_ne rfl rfl) rfl ?_
      refine Rg_op rfl (op_pick_f (v := (Value.bool false)) rfl rfl ?_)
      refine Rg_op rfl (op_move (v := (Value.bool false)) rfl ?_)
      iterate 3 refine Rg_opx rfl (asB_ne rfl rfl) rfl ?_
      refine Rg_op rfl (op_pick_f (v := (Value.bool false)) rfl rfl ?_)
      refine Rg_op rfl (op_move (v := (Value.bool false)) rfl ?_)
      iterate 2 refine Rg_opx rfl (asB_ne rfl rfl) rfl ?_
      refine Rg_op rfl (op_pick_f (v := (Value.bool false)) rfl rfl ?_)
      refine Rg_op rfl (op_move (v := (Value.bool false)) rfl ?_)
      iterate 6 refine Rg_opx rfl (asB_ne rfl rfl) rfl ?_
      refine Rg_op rfl (op_pick_f (v := (Value.bool false)) rfl rfl ?_)
      refine Rg_op rfl (op_move (v := (Value.bool false)) rfl ?_)
      iterate 2 refine Rg_opx rfl (asB_ne rfl rfl) rfl ?_
      refine Rg_op rfl (op_pick_f (v := (Value.bool false)) rfl rfl ?_)
      refine Rg_op rfl (op_move (v := (Value.bool false)) rfl ?_)
      refine Rg_opx rfl (asB_ne rfl rfl) rfl ?_
      refine Rg_op rfl (op_pick_f (v := (Value.bool false)) rfl rfl ?_)
      refine Rg_op rfl (op_move (v := (Value.bool false)) rfl ?_)
      iterate 2 refine Rg_opx rfl (asB_ne rfl rfl) rfl ?_
      refine Rg_op rfl (op_pick_f (v := (Value.bool false)) rfl rfl ?_)
      refine Rg_op rfl (op_move (v := (Value.bool false)) rfl ?_)
      iterate 2 refine Rg_opx rfl (asB_ne rfl rfl) rfl ?_
      refine Rg_op rfl (op_pick_f (v := (Value.bool false)) rfl rfl ?_)
      refine Rg_op rfl (op_assign (v := (Value.bool false)) rfl ?_)
      refine Rg_nil ?_
      exact hK386 _ _ ⟨false, _, rfl, ⟨(by repeat (first | with_reducible exact Out.refl _ _ | refine Out.upd ?_ rfl | refine Out.updL ?_ rfl | refine Out.mix' ?_ rfl | exact Out.refl _ _)), rfl, rfl, trivial⟩, ch392, hs378, hm⟩
    ·
     replace hm := bif_f hm hg394
     iterate 3 refine Rg_opx rfl (asB_ne rfl rfl) rfl ?_
     refine Rg_op rfl (op_pick_f (v := (Value.bool false)) rfl rfl ?_)
     refine Rg_op rfl (op_move (v := (Value.bool false)) rfl ?_)
     iterate 2 refine Rg_opx rfl (asB_ne rfl rfl) rfl ?_
     refine Rg_op rfl (op_pick_f (v := (Value.bool false)) rfl rfl ?_)
     refine Rg_op rfl (op_move (v := (Value.bool false)) rfl ?_)
     iterate 3 refine Rg_opx rfl (asB_ne rfl rfl) rfl ?_
     refine Rg_op rfl (op_pick_f (v := (Value.bool false)) rfl rfl ?_)
     refine Rg_op rfl (op_move (v := (Value.bool false)) rfl ?_)
     iterate 2 refine Rg_opx rfl (asB_ne rfl rfl) rfl ?_
     refine Rg_op rfl (op_pick_f (v := (Value.bool false)) rfl rfl ?_)
     refine Rg_op rfl (op_move (v := (Value.bool false)) rfl ?_)
     iterate 6 refine Rg_opx rfl (asB_ne rfl rfl) rfl ?_
     refine Rg_op rfl (op_pick_f (v := (Value.bool false)) rfl rfl ?_)
     refine Rg_op rfl (op_move (v := (Value.bool false)) rfl ?_)
     iterate 2 refine Rg_opx rfl (asB_ne rfl rfl) rfl ?_
     refine Rg_op rfl (op_pick_f (v := (Value.bool false)) rfl rfl ?_)
     refine Rg_op rfl (op_move (v := (Value.bool false)) rfl ?_)
     refine Rg_opx rfl (asB_ne rfl rfl) rfl ?_
     refine Rg_op rfl (op_pick_f (v := (Value.bool false)) rfl rfl ?_)
     refine Rg_op rfl (op_move (v := (Value.bool false)) rfl ?_)
     iterate 2 refine Rg_opx rfl (asB_ne rfl rfl) rfl ?_
     refine Rg_op rfl (op_pick_f (v := (Value.bool false)) rfl rfl ?_)
     refine Rg_op rfl (op_move (v := (Value.bool false)) rfl ?_)
     iterate 2 refine Rg_opx rfl (asB_ne rfl rfl) rfl ?_
     refine Rg_op rfl (op_pick_f (v := (Value.bool false)) rfl rfl ?_)
     refine Rg_op rfl (op_assign (v := (Value.bool false)) rfl ?_)
     refine Rg_nil ?_
     exact hK386 _ _ ⟨false, _, rfl, ⟨(by repeat (first | with_reducible exact Out.refl _ _ | refine Out.upd ?_ rfl | refine Out.updL ?_ rfl | refine Out.mix' ?_ rfl | exact Out.refl _ _)), rfl, rfl, trivial⟩, ch392, hs378, hm⟩
   ·
    replace hm := bif_f hm hg393
    iterate 2 refine Rg_opx rfl (asB_ne rfl rfl) rfl ?_
    refine Rg_op rfl (op_pick_f (v := (Value.bool false)) rfl rfl ?_)
    refine Rg_op rfl (op_move (v := (Value.bool false)) rfl ?_)
    iterate 3 refine Rg_opx rfl (asB_ne rfl rfl) rfl ?_
    refine Rg_op rfl (op_pick_f (v := (Value.bool false)) rfl rfl ?_)
    refine Rg_op rfl (op_move (v := (Value.bool false)) rfl ?_)
    iterate 2 refine Rg_opx rfl (asB_ne rfl rfl) rfl ?_
    refine Rg_op rfl (op_pick_f (v := (Value.bool false)) rfl rfl ?_)
    refine Rg_op rfl (op_move (v := (Value.bool false)) rfl ?_)
    iterate 3 refine Rg_opx rfl (asB_ne rfl rfl) rfl ?_
    refine Rg_op rfl (op_pick_f (v := (Value.bool false)) rfl rfl ?_)
    refine Rg_op rfl (op_move (v := (Value.bool false)) rfl ?_)
    iterate 2 refine Rg_opx rfl (asB_ne rfl rfl) rfl ?_
    refine Rg_op rfl (op_pick_f (v := (Value.bool false)) rfl rfl ?_)
    refine Rg_op rfl (op_move (v := (Value.bool false)) rfl ?_)
    iterate 6 refine Rg_opx rfl (asB_ne rfl rfl) rfl ?_
    refine Rg_op rfl (op_pick_f (v := (Value.bool false)) rfl rfl ?_)
    refine Rg_op rfl (op_move (v := (Value.bool false)) rfl ?_)
    iterate 2 refine Rg_opx rfl (asB_ne rfl rfl) rfl ?_
    refine Rg_op rfl (op_pick_f (v := (Value.bool false)) rfl rfl ?_)
    refine Rg_op rfl (op_move (v := (Value.bool false)) rfl ?_)
    refine Rg_opx rfl (asB_ne rfl rfl) rfl ?_
    refine Rg_op rfl (op_pick_f (v := (Value.bool false)) rfl rfl ?_)
    refine Rg_op rfl (op_move (v := (Value.bool false)) rfl ?_)
    iterate 2 refine Rg_opx rfl (asB_ne rfl rfl) rfl ?_
    refine Rg_op rfl (op_pick_f (v := (Value.bool false)) rfl rfl ?_)
    refine Rg_op rfl (op_move (v := (Value.bool false)) rfl ?_)
    iterate 2 refine Rg_opx rfl (asB_ne rfl rfl) rfl ?_
    refine Rg_op rfl (op_pick_f (v := (Value.bool false)) rfl rfl ?_)
    refine Rg_op rfl (op_assign (v := (Value.bool false)) rfl ?_)
    refine Rg_nil ?_
    exact hK386 _ _ ⟨false, _, rfl, ⟨(by repeat (first | with_reducible exact Out.refl _ _ | refine Out.upd ?_ rfl | refine Out.updL ?_ rfl | refine Out.mix' ?_ rfl | exact Out.refl _ _)), rfl, rfl, trivial⟩, ch392, hs378, hm⟩
 ·
  intro K376 hK376
  have ch449 := Step.refl (ks [] O) w361
  clear f356
  refine Wp_region ?_
  refine Rg_op rfl (op_move (v := (Value.int .i64 below_1.2)) rfl ?_)
  refine Rg_op rfl (op_eql rfl rfl ?_)
  refine Rg_op rfl (op_move (v := (Value.bool (decide (below_1.2 = 0)))) rfl ?_)
  refine Rg_case (fun hg450 => ?_) (fun hg450 => ?_)
  ·
   replace hm := bif_t hm hg450
   refine Rg_opg rfl rfl rfl (op_move (v := (Value.bool below_1.1)) rfl ?_)
   refine Rg_opg rfl rfl rfl (op_not rfl ?_)
   refine Rg_op rfl (op_pick_t (v := (Value.bool (!below_1.1))) rfl rfl ?_)
   refine Rg_op rfl (op_move (v := (Value.bool (!below_1.1))) rfl ?_)
   refine Rg_case (fun hg451 => ?_) (fun hg451 => ?_)
   ·
    replace hm := bif_t hm hg451
    refine Rg_opg rfl rfl rfl (op_move (v := (Value.int .i64 compare_1.2)) rfl ?_)
    refine Rg_opg rfl rfl rfl (op_eql rfl rfl ?_)
    refine Rg_op rfl (op_pick_t (v := (Value.bool (decide (compare_1.2 = 0)))) rfl rfl ?_)
    refine Rg_op rfl (op_move (v := (Value.bool (decide (compare_1.2 = 0)))) rfl ?_)
    refine Rg_case (fun hg452 => ?_) (fun hg452 => ?_)
    ·
     replace hm := bif_t hm hg452
     refine Rg_opg rfl rfl rfl (op_move (v := (Value.int .i64 compare_1.1)) rfl ?_)
     refine Rg_opg rfl rfl rfl (op_eql rfl rfl ?_)
     refine Rg_op rfl (op_pick_t (v := (Value.bool (decide (compare_1.1 = (-1))))) rfl rfl ?_)
     refine Rg_op rfl (op_move (v := (Value.bool (decide (compare_1.1 = (-1))))) rfl ?_)
     refine Rg_case (fun hg453 => ?_) (fun hg453 => ?_)
     ·
      replace hm := bif_t hm hg453
      refine Rg_opg rfl rfl rfl (op_move (v := (Value.int .i64 compare_2.2)) rfl ?_)
      refine Rg_opg rfl rfl rfl (op_eql rfl rfl ?_)
      refine Rg_op rfl (op_pick_t (v := (Value.bool (decide (compare_2.2 = 0)))) rfl rfl ?_)
      refine Rg_op rfl (op_move (v := (Value.bool (decide (compare_2.2 = 0)))) rfl ?_)
      refine Rg_case (fun hg454 => ?_) (fun hg454 => ?_)
      ·
       replace hm := bif_t hm hg454
       refine Rg_opg rfl rfl rfl (op_move (v := (Value.int .i64 compare_2.1)) rfl ?_)
       refine Rg_opg rfl rfl rfl (op_eql rfl rfl ?_)
       refine Rg_op rfl (op_pick_t (v := (Value.bool (decide (compare_2.1 = 0)))) rfl rfl ?_)
       refine Rg_op rfl (op_move (v := (Value.bool (decide (compare_2.1 = 0)))) rfl ?_)
       refine Rg_case (fun hg455 => ?_) (fun hg455 => ?_)
       ·
        replace hm := bif_t hm hg455
        refine Rg_opg rfl rfl rfl (op_move (v := (Value.int .i64 add_1.2)) rfl ?_)
        refine Rg_opg rfl rfl rfl (op_eql rfl rfl ?_)
        refine Rg_op rfl (op_pick_t (v := (Value.bool (decide (add_1.2 = 60)))) rfl rfl ?_)
        refine Rg_op rfl (op_move (v := (Value.bool (decide (add_1.2 = 60)))) rfl ?_)
        refine Rg_case (fun hg456 => ?_) (fun hg456 => ?_)
        ·
         replace hm := bif_t hm hg456
         refine Rg_opg rfl rfl rfl (op_move (v := (Value.int .i64 add_2.2)) rfl ?_)
         refine Rg_opg rfl rfl rfl (op_eql rfl rfl ?_)
         refine Rg_op rfl (op_pick_t (v := (Value.bool (decide (add_2.2 = 0)))) rfl rfl ?_)
         refine Rg_op rfl (op_move (v := (Value.bool (decide (add_2.2 = 0)))) rfl ?_)
         refine Rg_case (fun hg457 => ?_) (fun hg457 => ?_)
         ·
          replace hm := bif_t hm hg457
          refine Rg_opg rfl rfl rfl (op_move (v := (Value.slice a_y137 add_2.1.length c_y137)) rfl ?_)
          refine Rg_opg rfl rfl rfl (op_buildSlice (cs := [(Value.int .i64 3), (Value.int .i64 1)]) (parts := [(0, .const (.int .i64 3)), (1, .const (.int .i64 1))]) ty22 ty3 hs364 (by decide) rfl ?_)
          intro b458 w459 hx462 p460 hs461
          replace f_y137 := f_y137.step p460; replace f_y195 := f_y195.step p460; replace f_y208 := f_y208.step p460; replace f_y240 := f_y240.step p460; replace f_y307 := f_y307.step p460; replace ch449 := ch449.trans p460; clear p460 hs364
          obtain ⟨hs465, p466, f464⟩ := St.publish (i := 0) (o := 0) (c := 2) (xs := [3, 1]) hs461 rfl (show Els (rInt .i64) _ _ [(Value.int .i64 3), (Value.int .i64 1)] [3, 1] from ⟨_, _, rfl, (mk_int (show InK .i64 3 from by decide)), ⟨_, _, rfl, (mk_int (show InK .i64 1 from by decide)), Els.nil⟩⟩) (le_lit rfl) (le_lit rfl) (le_lit rfl)
          replace f_y137 := f_y137.step p466; replace f_y195 := f_y195.step p466; replace f_y208 := f_y208.step p466; replace f_y240 := f_y240.step p466; replace f_y307 := f_y307.step p466; replace ch449 := ch449.trans p466; clear p466 hs461
          replace hm := bd hm; obtain ⟨same_1, hv467, hm⟩ := hm
          refine Rg_opg rfl rfl rfl (op_call Try.call19 (c19_overflightref06_Same (a := add_2.1) (b := [3, 1]) hs465.ltw f_y137 f464 hv467) rfl ?_)
          rintro v468 w469 ⟨hx470, h471⟩
          have hs472 := hs465.call hx470
          have p473 := Step.ext (O := ks [] O) hx470
          clear hx470
          replace f_y137 := f_y137.step p473; replace f_y195 := f_y195.step p473; replace f_y208 := f_y208.step p473; replace f_y240 := f_y240.step p473; replace f_y307 := f_y307.step p473; replace f464 := f464.step p473; replace ch449 := ch449.trans p473; clear p473 hs465
          obtain rfl := h471
          refine Rg_op rfl (op_pick_t (v := (Value.bool same_1)) rfl rfl ?_)
          refine Rg_op rfl (op_move (v := (Value.bool same_1)) rfl ?_)
          refine Rg_case (fun hg475 => ?_) (fun hg475 => ?_)
          ·
           replace hm := bif_t hm hg475
           refine Rg_opg rfl rfl rfl (op_move (v := (Value.int .i64 least_1.2)) rfl ?_)
           refine Rg_opg rfl rfl rfl (op_eql rfl rfl ?_)
           refine Rg_op rfl (op_pick_t (v := (Value.bool (decide (least_1.2 = 0)))) rfl rfl ?_)
           refine Rg_op rfl (op_move (v := (Value.bool (decide (least_1.2 = 0)))) rfl ?_)
           refine Rg_case (fun hg476 => ?_) (fun hg476 => ?_)
           ·
            replace hm := bif_t hm hg476
            refine Rg_opg rfl rfl rfl (op_move (v := (Value.slice a_y195 least_1.1.length c_y195)) rfl ?_)
            refine Rg_opg rfl rfl rfl (op_buildSlice (cs := [(Value.int .i64 1), (Value.int .i64 5)]) (parts := [(0, .const (.int .i64 1)), (1, .const (.int .i64 5))]) ty22 ty3 hs472 (by decide) rfl ?_)
            intro b477 w478 hx481 p479 hs480
            replace f_y137 := f_y137.step p479; replace f_y195 := f_y195.step p479; replace f_y208 := f_y208.step p479; replace f_y240 := f_y240.step p479; replace f_y307 := f_y307.step p479; replace f464 := f464.step p479; replace ch449 := ch449.trans p479; clear p479 hs472
            refine Rg_opg rfl rfl rfl (op_buildSlice (cs := [(Value.int .i64 2), (Value.int .i64 4)]) (parts := [(0, .const (.int .i64 2)), (1, .const (.int .i64 4))]) ty22 ty3 hs480 (by decide) rfl ?_)
            intro b483 w484 hx487 p485 hs486
            replace f_y137 := f_y137.step p485; replace f_y195 := f_y195.step p485; replace f_y208 := f_y208.step p485; replace f_y240 := f_y240.step p485; replace f_y307 := f_y307.step p485; replace f464 := f464.step p485; replace ch449 := ch449.trans p485; clear p485 hs480
            obtain ⟨hs490, p491, f489⟩ := St.publish (i := 1) (o := 0) (c := 2) (xs := [1, 5]) hs486 rfl (show Els (rInt .i64) _ _ [(Value.int .i64 1), (Value.int .i64 5)] [1, 5] from ⟨_, _, rfl, (mk_int (show InK .i64 1 from by decide)), ⟨_, _, rfl, (mk_int (show InK .i64 5 from by decide)), Els.nil⟩⟩) (le_lit rfl) (le_lit rfl) (le_lit rfl)
            replace f_y137 := f_y137.step p491; replace f_y195 := f_y195.step p491; replace f_y208 := f_y208.step p491; replace f_y240 := f_y240.step p491; replace f_y307 := f_y307.step p491; replace f464 := f464.step p491; replace ch449 := ch449.trans p491; clear p491 hs486
            obtain ⟨hs493, p494, f492⟩ := St.publish (i := 0) (o := 0) (c := 2) (xs := [2, 4]) hs490 rfl (show Els (rInt .i64) _ _ [(Value.int .i64 2), (Value.int .i64 4)] [2, 4] from ⟨_, _, rfl, (mk_int (show InK .i64 2 from by decide)), ⟨_, _, rfl, (mk_int (show InK .i64 4 from by decide)), Els.nil⟩⟩) (le_lit rfl) (le_lit rfl) (le_lit rfl)
            replace f_y137 := f_y137.step p494; replace f_y195 := f_y195.step p494; replace f_y208 := f_y208.step p494; replace f_y240 := f_y240.step p494; replace f_y307 := f_y307.step p494; replace f464 := f464.step p494; replace f489 := f489.step p494; replace ch449 := ch449.trans p494; clear p494 hs490
            refine Rg_opg rfl rfl rfl (op_buildSlice (cs := [(Value.slice (some ⟨b477, 0, none⟩) [1, 5].length 2), (Value.slice (some ⟨b483, 0, none⟩) [2, 4].length 2)]) (parts := [(0, .tmp 134), (1, .tmp 135)]) ty33 ty22 hs493 (by decide) rfl ?_)
            intro b495 w496 hx499 p497 hs498
            replace f_y137 := f_y137.step p497; replace f_y195 := f_y195.step p497; replace f_y208 := f_y208.step p497; replace f_y240 := f_y240.step p497; replace f_y307 := f_y307.step p497; replace f464 := f464.step p497; replace f489 := f489.step p497; replace f492 := f492.step p497; replace ch449 := ch449.trans p497; clear p497 hs493
            obtain ⟨hs502, p503, f501⟩ := St.publish (i := 0) (o := 0) (c := 2) (xs := [[1, 5], [2, 4]]) hs498 rfl (show Els (rSl (rInt .i64)) _ _ [(Value.slice (some ⟨b477, 0, none⟩) [1, 5].length 2), (Value.slice (some ⟨b483, 0, none⟩) [2, 4].length 2)] [[1, 5], [2, 4]] from ⟨_, _, rfl, (mk_sl f489), ⟨_, _, rfl, (mk_sl f492), Els.nil⟩⟩) (le_lit rfl) (le_lit rfl) (le_lit rfl)
            replace f_y137 := f_y137.step p503; replace f_y195 := f_y195.step p503; replace f_y208 := f_y208.step p503; replace f_y240 := f_y240.step p503; replace f_y307 := f_y307.step p503; replace f464 := f464.step p503; replace f489 := f489.step p503; replace f492 := f492.step p503; replace ch449 := ch449.trans p503; clear p503 hs498
            replace hm := bd hm; obtain ⟨samelist_2, hv504, hm⟩ := hm
            refine Rg_opg rfl rfl rfl (op_call Try.call27 (c27_overflightref06_SameList (a := least_1.1) (b := [[1, 5], [2, 4]]) hs502.ltw f_y195 f501 hv504) rfl ?_)
            rintro v505 w506 ⟨hx507, h508⟩
            have hs509 := hs502.call hx507
            have p510 := Step.ext (O := ks [] O) hx507
            clear hx507
            replace f_y137 := f_y137.step p510; replace f_y195 := f_y195.step p510; replace f_y208 := f_y208.step p510; replace f_y240 := f_y240.step p510; replace f_y307 := f_y307.step p510; replace f464 := f464.step p510; replace f489 := f489.step p510; replace f492 := f492.step p510; replace f501 := f501.step p510; replace ch449 := ch449.trans p510; clear p510 hs502
            obtain rfl := h508
            refine Rg_op rfl (op_pick_t (v := (Value.bool samelist_2)) rfl rfl ?_)
            refine Rg_op rfl (op_assign (v := (Value.bool samelist_2)) rfl ?_)
            refine Rg_nil ?_
            exact hK376 _ _ ⟨samelist_2, _, rfl, ⟨(by repeat (first | with_reducible exact Out.refl _ _ | refine Out.upd ?_ rfl | refine Out.updL ?_ rfl | refine Out.mix' ?_ rfl | exact Out.refl _ _)), rfl, rfl, trivial⟩, ch449, hs509, hm⟩
           ·
            replace hm := bif_f hm hg476
            iterate 5 refine Rg_opx rfl (asB_ne rfl rfl) rfl ?_
            refine Rg_op rfl (op_pick_f (v := (Value.bool false)) rfl rfl ?_)
            refine Rg_op rfl (op_assign (v := (Value.bool false)) rfl ?_)
            refine Rg_nil ?_
            exact hK376 _ _ ⟨false, _, rfl, ⟨(by repeat (first | with_reducible exact Out.refl _ _ | refine Out.upd ?_ rfl | refine Out.updL ?_ rfl | refine Out.mix' ?_ rfl | exact Out.refl _ _)), rfl, rfl, trivial⟩, ch449, hs472, hm⟩
          ·
           replace hm := bif_f hm hg475
           iterate 2 refine Rg_opx rfl (asB_ne rfl rfl) rfl ?_
           refine Rg_op rfl (op_pick_f (v := (Value.bool false)) rfl rfl ?_)
           refine Rg_op rfl (op_move (v := (Value.bool false)) rfl ?_)
           iterate 5 refine Rg_opx rfl (asB_ne rfl rfl) rfl ?_
           refine Rg_op rfl (op_pick_f (v := (Value.bool false)) rfl rfl ?_)
           refine Rg_op rfl (op_assign (v := (Value.bool false)) rfl ?_)
           refine Rg_nil ?_
           exact hK376 _ _ ⟨false, _, rfl, ⟨(by repeat (first | with_reducible exact Out.refl _ _ | refine Out.upd ?_ rfl | refine Out.updL ?_ rfl | refine Out.mix' ?_ rfl | exact Out.refl _ _)), rfl, rfl, trivial⟩, ch449, hs472, hm⟩
         ·
          replace hm := bif_f hm hg457
          iterate 3 refine Rg_opx rfl (asB_ne rfl rfl) rfl ?_
          refine Rg_op rfl (op_pick_f (v := (Value.bool false)) rfl rfl ?_)
          refine Rg_op rfl (op_move (v := (Value.bool false)) rfl ?_)
          iterate 2 refine Rg_opx rfl (asB_ne rfl rfl) rfl ?_
          refine Rg_op rfl (op_pick_f (v := (Value.bool false)) rfl rfl ?_)
          refine Rg_op rfl (op_move (v := (Value.bool false)) rfl ?_)
          iterate 5 refine Rg_opx rfl (asB_ne rfl rfl) rfl ?_
          refine Rg_op rfl (op_pick_f (v := (Value.bool false)) rfl rfl ?_)
          refine Rg_op rfl (op_assign (v := (Value.bool false)) rfl ?_)
          refine Rg_nil ?_
          exact hK376 _ _ ⟨false, _, rfl, ⟨(by repeat (first | with_reducible exact Out.refl _ _ | refine Out.upd ?_ rfl | refine Out.updL ?_ rfl | refine Out.mix' ?_ rfl | exact Out.refl _ _)), rfl, rfl, trivial⟩, ch449, hs364, hm⟩
        ·
         replace hm := bif_f hm hg456
         iterate 2 refine Rg_opx rfl (asB_ne rfl rfl) rfl ?_
         refine Rg_op rfl (op_pick_f (v := (Value.bool false)) rfl rfl ?_)
         refine Rg_op rfl (op_move (v := (Value.bool false)) rfl ?_)
         iterate 3 refine Rg_opx rfl (asB_ne rfl rfl) rfl ?_
         refine Rg_op rfl (op_pick_f (v := (Value.bool false)) rfl rfl ?_)
         refine Rg_op rfl (op_move (v := (Value.bool false)) rfl ?_)
         iterate 2 refine Rg_opx rfl (asB_ne rfl rfl) rfl ?_
         refine Rg_op rfl (op_pick_f (v := (Value.bool false)) rfl rfl ?_)
         refine Rg_op rfl (op_move (v := (Value.bool false)) rfl ?_)
         iterate 5 refine Rg_opx rfl (asB_ne rfl rfl) rfl ?_
         refine Rg_op rfl (op_pick_f (v := (Value.bool false)) rfl rfl ?_)
         refine Rg_op rfl (op_assign (v := (Value.bool false)) rfl ?_)
         refine Rg_nil ?_
         exact hK376 _ _ ⟨false, _, rfl, ⟨(by repeat (first | with_reducible exact Out.refl _ _ | refine Out.upd ?_ rfl | refine Out.updL ?_ rfl | refine Out.mix' ?_ rfl | exact Out.refl _ _)), rfl, rfl, trivial⟩, ch449, hs364, hm⟩
       ·
        replace hm := bif_f hm hg455
        iterate 2 refine Rg_opx rfl (asB_ne rfl rfl) rfl ?_
        refine Rg_op rfl (op_pick_f (v := (Value.bool false)) rfl rfl ?_)
        refine Rg_op rfl (op_move (v := (Value.bool false)) rfl ?_)
        iterate 2 refine Rg_opx rfl (asB_ne rfl rfl) rfl ?_
        refine Rg_op rfl (op_pick_f (v := (Value.bool false)) rfl rfl ?_)
        refine Rg_op rfl (op_move (v := (Value.bool false)) rfl ?_)
        iterate 3 refine Rg_opx rfl (asB_ne rfl rfl) rfl ?_
        refine Rg_op rfl (op_pick_f (v := (Value.bool false)) rfl rfl ?_)
        refine Rg_op rfl (op_move (v := (Value.bool false)) rfl ?_)
        iterate 2 refine Rg_opx rfl (asB_ne rfl rfl) rfl ?_
        refine Rg_op rfl (op_pick_f (v := (Value.bool false)) rfl rfl ?_)
        refine Rg_op rfl (op_move (v := (Value.bool false)) rfl ?_)
        iterate 5 refine Rg_opx rfl (asB_ne rfl rfl) rfl ?_
        refine Rg_op rfl (op_pick_f (v := (Value.bool false)) rfl rfl ?_)
        refine Rg_op rfl (op_assign (v := (Value.bool false)) rfl ?_)
        refine Rg_nil ?_
        exact hK376 _ _ ⟨false, _, rfl, ⟨(by repeat (first | with_reducible exact Out.refl _ _ | refine Out.upd ?_ rfl | refine Out.updL ?_ rfl | refine Out.mix' ?_ rfl | exact Out.refl _ _)), rfl, rfl, trivial⟩, ch449, hs364, hm⟩
      ·
       replace hm := bif_f hm hg454
       iterate 2 refine Rg_opx rfl (asB_ne rfl rfl) rfl ?_
       refine Rg_op rfl (op_pick_f (v := (Value.bool false)) rfl rfl ?_)
       refine Rg_op rfl (op_move (v := (Value.bool false)) rfl ?_)
       iterate 2 refine Rg_opx rfl (asB_ne rfl rfl) rfl ?_
       refine Rg_op rfl (op_pick_f (v := (Value.bool false)) rfl rfl ?_)
       refine Rg_op rfl (op_move (v := (Value.bool false)) rfl ?_)
       iterate 2 refine Rg_opx rfl (asB_ne rfl rfl) rfl ?_
       refine Rg_op rfl (op_pick_f (v := (Value.bool false)) rfl rfl ?_)
       refine Rg_op rfl (op_move (v := (Value.bool false)) rfl ?_)
       iterate 3 refine Rg_opx rfl (asB_ne rfl rfl) rfl ?_
       refine Rg_op rfl (op_pick_f (v := (Value.bool false)) rfl rfl ?_)
       refine Rg_op rfl (op_move (v := (Value.bool false)) rfl ?_)
       iterate 2 refine Rg_opx rfl (asB_ne rfl rfl) rfl ?_
       refine Rg_op rfl (op_pick_f (v := (Value.bool false)) rfl rfl ?_)
       refine Rg_op rfl (op_move (v := (Value.bool false)) rfl ?_)
       iterate 5 refine Rg_opx rfl (asB_ne rfl rfl) rfl ?_
       refine Rg_op rfl (op_pick_f (v := (Value.bool false)) rfl rfl ?_)
       refine Rg_op rfl (op_assign (v := (Value.bool false)) rfl ?_)
       refine Rg_nil ?_
       exact hK376 _ _ ⟨false, _, rfl, ⟨(by repeat (first | with_reducible exact Out.refl _ _ | refine Out.upd ?_ rfl | refine Out.updL ?_ rfl | refine Out.mix' ?_ rfl | exact Out.refl _ _)), rfl, rfl, trivial⟩, ch449, hs364, hm⟩
     ·
      replace hm := bif_f hm hg453
      iterate 2 refine Rg_opx rfl (asB_ne rfl rfl) rfl ?_
      refine Rg_op rfl (op_pick_f (v := (Value.bool false)) rfl rfl ?_)
      refine Rg_op rfl (op_move (v := (Value.bool false)) rfl ?_)
      iterate 2 refine Rg_opx rfl (asB_ne rfl rfl) rfl ?_
      refine Rg_op rfl (op_pick_f (v := (Value.bool false)) rfl rfl ?_)
      refine Rg_op rfl (op_move (v := (Value.bool false)) rfl ?_)
      iterate 2 refine Rg_opx rfl (asB_ne rfl rfl) rfl ?_
      refine Rg_op rfl (op_pick_f (v := (Value.bool false)) rfl rfl ?_)
      refine Rg_op rfl (op_move (v := (Value.bool false)) rfl ?_)
      iterate 2 refine Rg_opx rfl (asB_ne rfl rfl) rfl ?_
      refine Rg_op rfl (op_pick_f (v := (Value.bool false)) rfl rfl ?_)
      refine Rg_op rfl (op_move (v := (Value.bool false)) rfl ?_)
      iterate 3 refine Rg_opx rfl (asB_ne rfl rfl) rfl ?_
      refine Rg_op rfl (op_pick_f (v := (Value.bool false)) rfl rfl ?_)
      refine Rg_op rfl (op_move (v := (Value.bool false)) rfl ?_)
      iterate 2 refine Rg_opx rfl (asB_ne rfl rfl) rfl ?_
      refine Rg_op rfl (op_pick_f (v := (Value.bool false)) rfl rfl ?_)
      refine Rg_op rfl (op_move (v := (Value.bool false)) rfl ?_)
      iterate 5 refine Rg_opx rfl (asB_ne rfl rfl) rfl ?_
      refine Rg_op rfl (op_pick_f (v := (Value.bool false)) rfl rfl ?_)
      refine Rg_op rfl (op_assign (v := (Value.bool false)) rfl ?_)
      refine Rg_nil ?_
      exact hK376 _ _ ⟨false, _, rfl, ⟨(by repeat (first | with_reducible exact Out.refl _ _ | refine Out.upd ?_ rfl | refine Out.updL ?_ rfl | refine Out.mix' ?_ rfl | exact Out.refl _ _)), rfl, rfl, trivial⟩, ch449, hs364, hm⟩
    ·
     replace hm := bif_f hm hg452
     iterate 2 refine Rg_opx rfl (asB_ne rfl rfl) rfl ?_
     refine Rg_op rfl (op_pick_f (v := (Value.bool false)) rfl rfl ?_)
     refine Rg_op rfl (op_move (v := (Value.bool false)) rfl ?_)
     iterate 2 refine Rg_opx rfl (asB_ne rfl rfl) rfl ?_
     refine Rg_op rfl (op_pick_f (v := (Value.bool false)) rfl rfl ?_)
     refine Rg_op rfl (op_move (v := (Value.bool false)) rfl ?_)
     iterate 2 refine Rg_opx rfl (asB_ne rfl rfl) rfl ?_
     refine Rg_op rfl (op_pick_f (v := (Value.bool false)) rfl rfl ?_)
     refine Rg_op rfl (op_move (v := (Value.bool false)) rfl ?_)
     iterate 2 refine Rg_opx rfl (asB_ne rfl rfl) rfl ?_
     refine Rg_op rfl (op_pick_f (v := (Value.bool false)) rfl rfl ?_)
     refine Rg_op rfl (op_move (v := (Value.bool false)) rfl ?_)
     iterate 2 refine Rg_opx rfl (asB_ne rfl rfl) rfl ?_
     refine Rg_op rfl (op_pick_f (v := (Value.bool false)) rfl rfl ?_)
     refine Rg_op rfl (op_move (v := (Value.bool false)) rfl ?_)
     iterate 3 refine Rg_opx rfl (asB_ne rfl rfl) rfl ?_
     refine Rg_op rfl (op_pick_f (v := (Value.bool false)) rfl rfl ?_)
     refine Rg_op rfl (op_move (v := (Value.bool false)) rfl ?_)
     iterate 2 refine Rg_opx rfl (asB_ne rfl rfl) rfl ?_
     refine Rg_op rfl (op_pick_f (v := (Value.bool false)) rfl rfl ?_)
     refine Rg_op rfl (op_move (v := (Value.bool false)) rfl ?_)
     iterate 5 refine Rg_opx rfl (asB_ne rfl rfl) rfl ?_
     refine Rg_op rfl (op_pick_f (v := (Value.bool false)) rfl rfl ?_)
     refine Rg_op rfl (op_assign (v := (Value.bool false)) rfl ?_)
     refine Rg_nil ?_
     exact hK376 _ _ ⟨false, _, rfl, ⟨(by repeat (first | with_reducible exact Out.refl _ _ | refine Out.upd ?_ rfl | refine Out.updL ?_ rfl | refine Out.mix' ?_ rfl | exact Out.refl _ _)), rfl, rfl, trivial⟩, ch449, hs364, hm⟩
   ·
    replace hm := bif_f hm hg451
    iterate 2 refine Rg_opx rfl (asB_ne rfl rfl) rfl ?_
    refine Rg_op rfl (op_pick_f (v := (Value.bool false)) rfl rfl ?_)
    refine Rg_op rfl (op_move (v := (Value.bool false)) rfl ?_)
    iterate 2 refine Rg_opx rfl (asB_ne rfl rfl) rfl ?_
    refine Rg_op rfl (op_pick_f (v := (Value.bool false)) rfl rfl ?_)
    refine Rg_op rfl (op_move (v := (Value.bool false)) rfl ?_)
    iterate 2 refine Rg_opx rfl (asB_ne rfl rfl) rfl ?_
    refine Rg_op rfl (op_pick_f (v := (Value.bool false)) rfl rfl ?_)
    refine Rg_op rfl (op_move (v := (Value.bool false)) rfl ?_)
    iterate 2 refine Rg_opx rfl (asB_ne rfl rfl) rfl ?_
    refine Rg_op rfl (op_pick_f (v := (Value.bool false)) rfl rfl ?_)
    refine Rg_op rfl (op_move (v := (Value.bool false)) rfl ?_)
    iterate 2 refine Rg_opx rfl (asB_ne rfl rfl) rfl ?_
    refine Rg_op rfl (op_pick_f (v := (Value.bool false)) rfl rfl ?_)
    refine Rg_op rfl (op_move (v := (Value.bool false)) rfl ?_)
    iterate 2 refine Rg_opx rfl (asB_ne rfl rfl) rfl ?_
    refine Rg_op rfl (op_pick_f (v := (Value.bool false)) rfl rfl ?_)
    refine Rg_op rfl (op_move (v := (Value.bool false)) rfl ?_)
    iterate 3 refine Rg_opx rfl (asB_ne rfl rfl) rfl ?_
    refine Rg_op rfl (op_pick_f (v := (Value.bool false)) rfl rfl ?_)
    refine Rg_op rfl (op_move (v := (Value.bool false)) rfl ?_)
    iterate 2 refine Rg_opx rfl (asB_ne rfl rfl) rfl ?_
    refine Rg_op rfl (op_pick_f (v := (Value.bool false)) rfl rfl ?_)
    refine Rg_op rfl (op_move (v := (Value.bool false)) rfl ?_)
    iterate 5 refine Rg_opx rfl (asB_ne rfl rfl) rfl ?_
    refine Rg_op rfl (op_pick_f (v := (Value.bool false)) rfl rfl ?_)
    refine Rg_op rfl (op_assign (v := (Value.bool false)) rfl ?_)
    refine Rg_nil ?_
    exact hK376 _ _ ⟨false, _, rfl, ⟨(by repeat (first | with_reducible exact Out.refl _ _ | refine Out.upd ?_ rfl | refine Out.updL ?_ rfl | refine Out.mix' ?_ rfl | exact Out.refl _ _)), rfl, rfl, trivial⟩, ch449, hs364, hm⟩
  ·
   replace hm := bif_f hm hg450
   iterate 2 refine Rg_opx rfl (asB_ne rfl rfl) rfl ?_
   refine Rg_op rfl (op_pick_f (v := (Value.bool false)) rfl rfl ?_)
   refine Rg_op rfl (op_move (v := (Value.bool false)) rfl ?_)
   iterate 2 refine Rg_opx rfl (asB_ne rfl rfl) rfl ?_
   refine Rg_op rfl (op_pick_f (v := (Value.bool false)) rfl rfl ?_)
   refine Rg_op rfl (op_move (v := (Value.bool false)) rfl ?_)
   iterate 2 refine Rg_opx rfl (asB_ne rfl rfl) rfl ?_
   refine Rg_op rfl (op_pick_f (v := (Value.bool false)) rfl rfl ?_)
   refine Rg_op rfl (op_move (v := (Value.bool false)) rfl ?_)
   iterate 2 refine Rg_opx rfl (asB_ne rfl rfl) rfl ?_
   refine Rg_op rfl (op_pick_f (v := (Value.bool false)) rfl rfl ?_)
   refine Rg_op rfl (op_move (v := (Value.bool false)) rfl ?_)
   iterate 2 refine Rg_opx rfl (asB_ne rfl rfl) rfl ?_
   refine Rg_op rfl (op_pick_f (v := (Value.bool false)) rfl rfl ?_)
   refine Rg_op rfl (op_move (v := (Value.bool false)) rfl ?_)
   iterate 2 refine Rg_opx rfl (asB_ne rfl rfl) rfl ?_
   refine Rg_op rfl (op_pick_f (v := (Value.bool false)) rfl rfl ?_)
   refine Rg_op rfl (op_move (v := (Value.bool false)) rfl ?_)
   iterate 2 refine Rg_opx rfl (asB_ne rfl rfl) rfl ?_
   refine Rg_op rfl (op_pick_f (v := (Value.bool false)) rfl rfl ?_)
   refine Rg_op rfl (op_move (v := (Value.bool false)) rfl ?_)
   iterate 3 refine Rg_opx rfl (asB_ne rfl rfl) rfl ?_
   refine Rg_op rfl (op_pick_f (v := (Value.bool false)) rfl rfl ?_)
   refine Rg_op rfl (op_move (v := (Value.bool false)) rfl ?_)
   iterate 2 refine Rg_opx rfl (asB_ne rfl rfl) rfl ?_
   refine Rg_op rfl (op_pick_f (v := (Value.bool false)) rfl rfl ?_)
   refine Rg_op rfl (op_move (v := (Value.bool false)) rfl ?_)
   iterate 5 refine Rg_opx rfl (asB_ne rfl rfl) rfl ?_
   refine Rg_op rfl (op_pick_f (v := (Value.bool false)) rfl rfl ?_)
   refine Rg_op rfl (op_assign (v := (Value.bool false)) rfl ?_)
   refine Rg_nil ?_
   exact hK376 _ _ ⟨false, _, rfl, ⟨(by repeat (first | with_reducible exact Out.refl _ _ | refine Out.upd ?_ rfl | refine Out.updL ?_ rfl | refine Out.mix' ?_ rfl | exact Out.refl _ _)), rfl, rfl, trivial⟩, ch449, hs364, hm⟩

end Go.Fx



set_option linter.unusedVariables false
set_option linter.unusedSimpArgs false
set_option maxRecDepth 100000
set_option maxHeartbeats 0
namespace Go.Fx
open Go Go.RowKit Go.Proofs
def m20_overflightref06_Few_B0 (l : List (List Int)) (sf3 : Int → Option Bool) (i_1 : Int) : Option Bool :=
 bif (decide (i_1 < (l.length : Int))) then
  ck ((0 : Int) ≤ i_1 ∧ i_1 < (l.length : Int)) <|
  bif (decide (20 < ((l.getD i_1.toNat default).length : Int))) then
   some false
  else
   sf3 (IntKind.wrap .i64 (i_1 + 1))
 else
  some (decide ((l.length : Int) ≤ 30))

def m20_overflightref06_Few (l : List (List Int)) : Option Bool :=
 loop1 (m20_overflightref06_Few_B0 l) (((l.length : Int) - 0).toNat + 1) 0

theorem c20_overflightref06_Few {w : World} {O : List Nat} {l : List (List Int)} {a_l : Option Addr} {c_l : Nat} (hO : ∀ k ∈ O, k < w.heap.size) (f_l : SlR (rSl (rInt .i64)) w O a_l c_l l) {x : Bool} (hm : m20_overflightref06_Few l = some x) :
  Ok Try.prog 20 [(Value.slice a_l l.length c_l)] w O vB x := by
 unfold m20_overflightref06_Few at hm
 refine Fn_of_Wp (n := 19) (xs := [.tmp 2]) Try.func20 rfl Try.ntmps20 Try.results20 rfl ?_
 have hs := St.start hO
 refine Wp_seq ?_
 refine Wp_region ?_
 refine Rg_op rfl (op_assign (v := (Value.bool false)) rfl ?_)
 refine Rg_nil ?_
 refine Wp_seq ?_
 refine Wp_seq ?_
 refine Wp_region ?_
 refine Rg_op rfl (op_assign (v := (Value.int .i64 0)) rfl ?_)
 refine Rg_nil ?_
 refine Wp_block ?_
 refine Wp_reset [] [(0, (Value.slice a_l l.length c_l)), (3, (Value.int .i64 0))] rfl ⟨rfl, rfl, trivial⟩ fun ξ2 => ?_
 refine Wp_loopM [2, 3, 4, 5, 6, 7, 8, 9, 10, 11, 12, 13, 14, 15] (fun m fr w' => ∃ (i_1 : Int) (Ebs : Ents), Ebs = [] ∧ fr [] [(3, (Value.int .i64 i_1))] ∧ Step (ks [] O) w (ks Ebs O) w' ∧ St ⟨w, [], []⟩ O w' Ebs ∧ InK .i64 i_1 ∧ loop1 (m20_overflightref06_Few_B0 l) m i_1 = some x) (((l.length : Int) - 0).toNat + 1) ⟨0, _, rfl, ⟨Out.refl _ _, rfl, rfl, trivial⟩, Step.refl _ _, hs, (show InK .i64 0 from by decide), hm⟩ ?_ ?_
 · rintro _ _ ⟨_, _, _, _, _, _, _, hm⟩; exact loop1_z hm
 ·
  rintro m6 K5 hK5 ρ11 w7 ⟨i_1, Ebs, hEbs, hfr10, hst9, hs8, r_y1, hm⟩
  obtain ⟨sf3, hsf4, hm⟩ := loop1_s hm; unfold m20_overflightref06_Few_B0 at hm
  subst hEbs; rw [hfr10.eq]; clear hfr10
  replace f_l := f_l.step hst9
  have ch12 := hst9
  refine Wp_seq ?_
  refine Wp_seq ?_
  refine Wp_region ?_
  refine Rg_op rfl (op_move (v := (Value.int .i64 i_1)) rfl ?_)
  refine Rg_op rfl (op_move (v := (Value.slice a_l l.length c_l)) rfl ?_)
  refine Rg_op rfl (op_len Try.underlying33 rfl ?_)
  have rl13 := inK_len f_l
  refine Rg_op rfl (op_lss rfl rfl ?_)
  refine Rg_nil ?_
  refine Wp_cond rfl (fun hc14 => ?_) (fun hc14 => ?_)
  ·
   replace hm := bif_t hm hc14
   refine Wp_skip ?_
   refine Wp_seq ?_
   refine Wp_block ?_
   refine Wp_seq ?_
   refine Wp_region ?_
   refine Rg_op rfl (op_move (v := (Value.slice a_l l.length c_l)) rfl ?_)
   refine Rg_op rfl (op_move (v := (Value.int .i64 i_1)) rfl ?_)
   replace hm := ck_some hm; obtain ⟨hc15, hm⟩ := hm
   refine Rg_op rfl (op_indexAddr (q := (rSl (rInt .i64))) ty33 ty22 rfl rfl f_l rfl hc15.1 hc15.2 ?_)
   intro p16 f17
   refine Rg_op rfl (op_loadP ty22 rfl f17 rfl ?_)
   intro v18 h19
   obtain ⟨a_y20, c_y20, rfl, f_y20⟩ := un_sl h19
   refine Rg_op rfl (op_len Try.underlying22 rfl ?_)
   have rl21 := inK_len f_y20
   refine Rg_op rfl (op_gtr rfl rfl ?_)
   refine Rg_nil ?_
   refine Wp_cond rfl (fun hc22 => ?_) (fun hc22 => ?_)
   ·
    replace hm := bif_t hm hc22
    refine Wp_seq ?_
    clear f_l f17 f_y20
    refine Wp_region ?_
    refine Rg_op rfl (op_assign (v := (Value.bool false)) rfl ?_)
    refine Rg_nil ?_
    refine Wp_ret ?_
    have hz := step_all hs8
    refine ⟨_, (show Closes [] _ _ from rfl), [(Value.bool false)], ⟨rfl, trivial⟩, hs8.ext, ?_⟩
    exact Vr.eq (a := vB) (x := false) rfl (Option.some.inj hm)
   ·
    replace hm := bif_f hm hc22
    refine Wp_skip ?_
    clear f17 f_y20
    refine Wp_region ?_
    refine Rg_op rfl (op_move (v := (Value.int .i64 i_1)) rfl ?_)
    refine Rg_op rfl (op_addw rfl rfl ?_)
    refine Rg_op rfl (op_assign (v := (Value.int .i64 (IntKind.wrap .i64 (i_1 + 1)))) rfl ?_)
    refine Rg_nil ?_
    exact hK5 _ _ ⟨(IntKind.wrap .i64 (i_1 + 1)), _, rfl, ⟨(by repeat (first | with_reducible exact Out.refl _ _ | refine Out.upd ?_ rfl | refine Out.updL ?_ rfl | refine Out.mix' ?_ rfl | exact Out.refl _ _)), rfl, rfl, trivial⟩, ch12, hs8, (inK_wrap .i64 _), jnE1 hsf4 hm⟩
  ·
   replace hm := bif_f hm hc14
   refine Wp_exit ?_
   refine Wp_seq ?_
   refine Wp_region ?_
   refine Rg_op rfl (op_move (v := (Value.slice a_l l.length c_l)) rfl ?_)
   refine Rg_op rfl (op_len Try.underlying33 rfl ?_)
   have rl23 := inK_len f_l
   refine Rg_op rfl (op_leq rfl rfl ?_)
   refine Rg_op rfl (op_assign (v := (Value.bool (decide ((l.length : Int) ≤ 30)))) rfl ?_)
   refine Rg_nil ?_
   refine Wp_ret ?_
   have hz := step_all hs8
   replace f_l := f_l.step hz
   refine ⟨_, (show Closes [] _ _ from rfl), [(Value.bool (decide ((l.length : Int) ≤ 30)))], ⟨rfl, trivial⟩, hs8.ext, ?_⟩
   exact Vr.eq (a := vB) (x := (decide ((l.length : Int) ≤ 30))) rfl (Option.some.inj hm)

end Go.Fx



set_option linter.unusedVariables false
set_option linter.unusedSimpArgs false
set_option maxRecDepth 100000
set_option maxHeartbeats 0
namespace Go.Fx
open Go Go.RowKit Go.Proofs
def m12_overflightlaw06_short (l : List (List Int)) : Option Bool :=
 (m20_overflightref06_Few l).bind fun few_1 =>
 some few_1

theorem c12_overflightlaw06_short {w : World} {O : List Nat} {l : List (List Int)} {a_l : Option Addr} {c_l : Nat} (hO : ∀ k ∈ O, k < w.heap.size) (f_l : SlR (rSl (rInt .i64)) w O a_l c_l l) {x : Bool} (hm : m12_overflightlaw06_short l = some x) :
  Ok Try.prog 12 [(Value.slice a_l l.length c_l)] w O vB x := by
 unfold m12_overflightlaw06_short at hm
 refine Fn_of_Wp (n := 5) (xs := [.tmp 2]) Try.func12 rfl Try.ntmps12 Try.results12 rfl ?_
 have hs := St.start hO
 refine Wp_seq ?_
 refine Wp_region ?_
 refine Rg_op rfl (op_assign (v := (Value.bool false)) rfl ?_)
 refine Rg_nil ?_
 refine Wp_seq ?_
 refine Wp_region ?_
 refine Rg_op rfl (op_move (v := (Value.slice a_l l.length c_l)) rfl ?_)
 replace hm := bd hm; obtain ⟨few_1, hv1, hm⟩ := hm
 refine Rg_op rfl (op_call Try.call20 (c20_overflightref06_Few (l := l) hs.ltw f_l hv1) rfl ?_)
 rintro v2 w3 ⟨hx4, h5⟩
 have hs6 := hs.call hx4
 have p7 := Step.ext (O := ks [] O) hx4
 clear hx4
 replace f_l := f_l.step p7; clear p7
 obtain rfl := h5
 refine Rg_op rfl (op_assign (v := (Value.bool few_1)) rfl ?_)
 refine Rg_nil ?_
 refine Wp_ret ?_
 have hz := step_all hs6
 replace f_l := f_l.step hz
 refine ⟨_, (show Closes [] _ _ from rfl), [(Value.bool few_1)], ⟨rfl, trivial⟩, hs6.ext, ?_⟩
 exact Vr.eq (a := vB) (x := few_1) rfl (Option.some.inj hm)

end Go.Fx



set_option linter.unusedVariables false
set_option linter.unusedSimpArgs false
set_option maxRecDepth 100000
set_option maxHeartbeats 0
namespace Go.Fx
open Go Go.RowKit Go.Proofs
def m38_overflightref06_alike_B0 (l : List (List Int)) (n : Int) (sf3 : Int → Option Bool) (i_1 : Int) : Option Bool :=
 bif (decide (i_1 < (l.length : Int))) then
  ck ((0 : Int) ≤ i_1 ∧ i_1 < (l.length : Int)) <|
  bif (decide (((l.getD i_1.toNat default).length : Int) ≠ n)) then
   some false
  else
   sf3 (IntKind.wrap .i64 (i_1 + 1))
 else
  some true

def m38_overflightref06_alike (l : List (List Int)) (n : Int) : Option Bool :=
 loop1 (m38_overflightref06_alike_B0 l n) (((l.length : Int) - 0).toNat + 1) 0

theorem c38_overflightref06_alike {w : World} {O : List Nat} {l : List (List Int)} {n : Int} {a_l : Option Addr} {c_l : Nat} (hO : ∀ k ∈ O, k < w.heap.size) (f_l : SlR (rSl (rInt .i64)) w O a_l c_l l) (r_n : InK .i64 n) {x : Bool} (hm : m38_overflightref06_alike l n = some x) :
  Ok Try.prog 38 [(Value.slice a_l l.length c_l), (Value.int .i64 n)] w O vB x := by
 unfold m38_overflightref06_alike at hm
 refine Fn_of_Wp (n := 19) (xs := [.tmp 4]) Try.func38 rfl Try.ntmps38 Try.results38 rfl ?_
 have hs := St.start hO
 refine Wp_seq ?_
 refine Wp_region ?_
 refine Rg_op rfl (op_assign (v := (Value.bool false)) rfl ?_)
 refine Rg_nil ?_
 refine Wp_seq ?_
 refine Wp_seq ?_
 refine Wp_region ?_
 refine Rg_op rfl (op_assign (v := (Value.int .i64 0)) rfl ?_)
 refine Rg_nil ?_
 refine Wp_block ?_
 refine Wp_reset [] [(0, (Value.slice a_l l.length c_l)), (1, (Value.int .i64 n)), (5, (Value.int .i64 0))] rfl ⟨rfl, rfl, rfl, trivial⟩ fun ξ2 => ?_
 refine Wp_loopM [4, 5, 6, 7, 8, 9, 10, 11, 12, 13, 14, 15, 16, 17, 18] (fun m fr w' => ∃ (i_1 : Int) (Ebs : Ents), Ebs = [] ∧ fr [] [(5, (Value.int .i64 i_1))] ∧ Step (ks [] O) w (ks Ebs O) w' ∧ St ⟨w, [], []⟩ O w' Ebs ∧ InK .i64 i_1 ∧ loop1 (m38_overflightref06_alike_B0 l n) m i_1 = some x) (((l.length : Int) - 0).toNat + 1) ⟨0, _, rfl, ⟨Out.refl _ _, rfl, rfl, trivial⟩, Step.refl _ _, hs, (show InK .i64 0 from by decide), hm⟩ ?_ ?_
 · rintro _ _ ⟨_, _, _, _, _, _, _, hm⟩; exact loop1_z hm
 ·
  rintro m6 K5 hK5 ρ11 w7 ⟨i_1, Ebs, hEbs, hfr10, hst9, hs8, r_y1, hm⟩
  obtain ⟨sf3, hsf4, hm⟩ := loop1_s hm; unfold m38_overflightref06_alike_B0 at hm
  subst hEbs; rw [hfr10.eq]; clear hfr10
  replace f_l := f_l.step hst9
  have ch12 := hst9
  refine Wp_seq ?_
  refine Wp_seq ?_
  refine Wp_region ?_
  refine Rg_op rfl (op_move (v := (Value.int .i64 i_1)) rfl ?_)
  refine Rg_op rfl (op_move (v := (Value.slice a_l l.length c_l)) rfl ?_)
  refine Rg_op rfl (op_len Try.underlying33 rfl ?_)
  have rl13 := inK_len f_l
  refine Rg_op rfl (op_lss rfl rfl ?_)
  refine Rg_nil ?_
  refine Wp_cond rfl (fun hc14 => ?_) (fun hc14 => ?_)
  ·
   replace hm := bif_t hm hc14
   refine Wp_skip ?_
   refine Wp_seq ?_
   refine Wp_block ?_
   refine Wp_seq ?_
   refine Wp_region ?_
   refine Rg_op rfl (op_move (v := (Value.slice a_l l.length c_l)) rfl ?_)
   refine Rg_op rfl (op_move (v := (Value.int .i64 i_1)) rfl ?_)
   replace hm := ck_some hm; obtain ⟨hc15, hm⟩ := hm
   refine Rg_op rfl (op_indexAddr (q := (rSl (rInt .i64))) ty33 ty22 rfl rfl f_l rfl hc15.1 hc15.2 ?_)
   intro p16 f17
   refine Rg_op rfl (op_loadP ty22 rfl f17 rfl ?_)
   intro v18 h19
   obtain ⟨a_y20, c_y20, rfl, f_y20⟩ := un_sl h19
   refine Rg_op rfl (op_len Try.underlying22 rfl ?_)
   have rl21 := inK_len f_y20
   refine Rg_op rfl (op_move (v := (Value.int .i64 n)) rfl ?_)
   refine Rg_op rfl (op_neq rfl rfl ?_)
   refine Rg_nil ?_
   refine Wp_cond rfl (fun hc22 => ?_) (fun hc22 => ?_)
   ·
    replace hm := bif_t hm hc22
    refine Wp_seq ?_
    clear f_l f17 f_y20
    refine Wp_region ?_
    refine Rg_op rfl (op_assign (v := (Value.bool false)) rfl ?_)
    refine Rg_nil ?_
    refine Wp_ret ?_
    have hz := step_all hs8
    refine ⟨_, (show Closes [] _ _ from rfl), [(Value.bool false)], ⟨rfl, trivial⟩, hs8.ext, ?_⟩
    exact Vr.eq (a := vB) (x := false) rfl (Option.some.inj hm)
   ·
    replace hm := bif_f hm hc22
    refine Wp_skip ?_
    clear f17 f_y20
    refine Wp_region ?_
    refine Rg_op rfl (op_move (v := (Value.int .i64 i_1)) rfl ?_)
    refine Rg_op rfl (op_addw rfl rfl ?_)
    refine Rg_op rfl (op_assign (v := (Value.int .i64 (IntKind.wrap .i64 (i_1 + 1)))) rfl ?_)
    refine Rg_nil ?_
    exact hK5 _ _ ⟨(IntKind.wrap .i64 (i_1 + 1)), _, rfl, ⟨(by repeat (first | with_reducible exact Out.refl _ _ | refine Out.upd ?_ rfl | refine Out.updL ?_ rfl | refine Out.mix' ?_ rfl | exact Out.refl _ _)), rfl, rfl, trivial⟩, ch12, hs8, (inK_wrap .i64 _), jnE1 hsf4 hm⟩
  ·
   replace hm := bif_f hm hc14
   refine Wp_exit ?_
   refine Wp_seq ?_
   clear f_l
   refine Wp_region ?_
   refine Rg_op rfl (op_assign (v := (Value.bool true)) rfl ?_)
   refine Rg_nil ?_
   refine Wp_ret ?_
   have hz := step_all hs8
   refine ⟨_, (show Closes [] _ _ from rfl), [(Value.bool true)], ⟨rfl, trivial⟩, hs8.ext, ?_⟩
   exact Vr.eq (a := vB) (x := true) rfl (Option.some.inj hm)

end Go.Fx



set_option linter.unusedVariables false
set_option linter.unusedSimpArgs false
set_option maxRecDepth 100000
set_option maxHeartbeats 0
namespace Go.Fx
open Go Go.RowKit Go.Proofs
def m33_overflightref06_IsBelow_B0 (a : List Int) (b : List Int) (sf3 : Int → Option Bool) (i_1 : Int) : Option Bool :=
 bif (decide (i_1 < (a.length : Int))) then
  ck ((0 : Int) ≤ i_1 ∧ i_1 < (a.length : Int)) <|
  ck ((0 : Int) ≤ i_1 ∧ i_1 < (b.length : Int)) <|
  bif (decide ((b.getD i_1.toNat default) < (a.getD i_1.toNat default))) then
   some false
  else
   sf3 (IntKind.wrap .i64 (i_1 + 1))
 else
  some true

def m33_overflightref06_IsBelow (a : List Int) (b : List Int) : Option Bool :=
 loop1 (m33_overflightref06_IsBelow_B0 a b) (((a.length : Int) - 0).toNat + 1) 0

theorem c33_overflightref06_IsBelow {w : World} {O : List Nat} {a : List Int} {b : List Int} {a_a : Option Addr} {c_a : Nat} {a_b : Option Addr} {c_b : Nat} (hO : ∀ k ∈ O, k < w.heap.size) (f_a : SlR (rInt .i64) w O a_a c_a a) (f_b : SlR (rInt .i64) w O a_b c_b b) {x : Bool} (hm : m33_overflightref06_IsBelow a b = some x) :
  Ok Try.prog 33 [(Value.slice a_a a.length c_a), (Value.slice a_b b.length c_b)] w O vB x := by
 unfold m33_overflightref06_IsBelow at hm
 refine Fn_of_Wp (n := 21) (xs := [.tmp 4]) Try.func33 rfl Try.ntmps33 Try.results33 rfl ?_
 have hs := St.start hO
 refine Wp_seq ?_
 refine Wp_region ?_
 refine Rg_op rfl (op_assign (v := (Value.bool false)) rfl ?_)
 refine Rg_nil ?_
 refine Wp_seq ?_
 refine Wp_seq ?_
 refine Wp_region ?_
 refine Rg_op rfl (op_assign (v := (Value.int .i64 0)) rfl ?_)
 refine Rg_nil ?_
 refine Wp_block ?_
 refine Wp_reset [] [(0, (Value.slice a_a a.length c_a)), (1, (Value.slice a_b b.length c_b)), (5, (Value.int .i64 0))] rfl ⟨rfl, rfl, rfl, trivial⟩ fun ξ2 => ?_
 refine Wp_loopM [4, 5, 6, 7, 8, 9, 10, 11, 12, 13, 14, 15, 16, 17, 18, 19, 20] (fun m fr w' => ∃ (i_1 : Int) (Ebs : Ents), Ebs = [] ∧ fr [] [(5, (Value.int .i64 i_1))] ∧ Step (ks [] O) w (ks Ebs O) w' ∧ St ⟨w, [], []⟩ O w' Ebs ∧ InK .i64 i_1 ∧ loop1 (m33_overflightref06_IsBelow_B0 a b) m i_1 = some x) (((a.length : Int) - 0).toNat + 1) ⟨0, _, rfl, ⟨Out.refl _ _, rfl, rfl, trivial⟩, Step.refl _ _, hs, (show InK .i64 0 from by decide), hm⟩ ?_ ?_
 · rintro _ _ ⟨_, _, _, _, _, _, _, hm⟩; exact loop1_z hm
 ·
  rintro m6 K5 hK5 ρ11 w7 ⟨i_1, Ebs, hEbs, hfr10, hst9, hs8, r_y1, hm⟩
  obtain ⟨sf3, hsf4, hm⟩ := loop1_s hm; unfold m33_overflightref06_IsBelow_B0 at hm
  subst hEbs; rw [hfr10.eq]; clear hfr10
  replace f_a := f_a.step hst9; replace f_b := f_b.step hst9
  have ch12 := hst9
  refine Wp_seq ?_
  refine Wp_seq ?_
  refine Wp_region ?_
  refine Rg_op rfl (op_move (v := (Value.int .i64 i_1)) rfl ?_)
  refine Rg_op rfl (op_move (v := (Value.slice a_a a.length c_a)) rfl ?_)
  refine Rg_op rfl (op_len Try.underlying22 rfl ?_)
  have rl13 := inK_len f_a
  refine Rg_op rfl (op_lss rfl rfl ?_)
  refine Rg_nil ?_
  refine Wp_cond rfl (fun hc14 => ?_) (fun hc14 => ?_)
  ·
   replace hm := bif_t hm hc14
   refine Wp_skip ?_
   refine Wp_seq ?_
   refine Wp_block ?_
   refine Wp_seq ?_
   refine Wp_drawR (g0 := []) (m := 8) (fl := []) (TS_inv hs8) rfl (.inl rfl) rfl (by decide +kernel) ?_  -- 4
   refine Dw_eq (Value.slice a_a a.length c_a) (fun ρ15 w16 g hle hi ht => ?_) ?_
   ·
    obtain ⟨-, hst, -⟩ := hle
    refine StepOp_plain (op_move (v := (Value.slice a_a a.length c_a)) (ht 0 rfl) ?_)
    exact Goes.same hi rfl
   refine Dw_eq (Value.int .i64 i_1) (fun ρ18 w19 g hle hi ht => ?_) ?_
   ·
    obtain ⟨-, hst, -⟩ := hle
    refine StepOp_plain (op_move (v := (Value.int .i64 i_1)) (ht 5 rfl) ?_)
    exact Goes.same hi rfl
   replace hm := ck_some hm; obtain ⟨hc24, hm⟩ := hm
   refine Dw_op (VP O [] (rInt .i64) (a.getD i_1.toNat default)) (VP.stab _ _) (fun ρ21 w22 g hle hi ht => ?_) ?_
   ·
    obtain ⟨-, hst, -⟩ := hle
    replace f_a := f_a.step hst
    refine StepOp_plain (op_indexAddr (q := (rInt .i64)) ty22 ty3 (ht 12 rfl) (ht 13 rfl) f_a rfl hc24.1 hc24.2 ?_)
    intro p25 f26
    exact Goes.same hi ⟨_, rfl, f26⟩
   refine Dw_op (VD O [] (vI .i64) (a.getD i_1.toNat default)) (VD.stab _ _) (fun ρ27 w28 g hle hi ht => ?_) ?_
   ·
    obtain ⟨-, hst, -⟩ := hle
    obtain ⟨p30, q31, f32⟩ := ht 14 rfl
    refine StepOp_plain (op_loadP ty3 q31 f32 rfl ?_)
    intro v33 h34
    obtain ⟨rfl, r_y35⟩ := un_int h34
    exact Goes.same hi (show Vr.vd (vI .i64) _ _ _ _ from ⟨rfl, r_y35⟩)
   refine Dw_eq (Value.slice a_b b.length c_b) (fun ρ36 w37 g hle hi ht => ?_) ?_
   ·
    obtain ⟨-, hst, -⟩ := hle
    refine StepOp_plain (op_move (v := (Value.slice a_b b.length c_b)) (ht 1 rfl) ?_)
    exact Goes.same hi rfl
   refine Dw_eq (Value.int .i64 i_1) (fun ρ39 w40 g hle hi ht => ?_) ?_
   ·
    obtain ⟨-, hst, -⟩ := hle
    refine StepOp_plain (op_move (v := (Value.int .i64 i_1)) (ht 5 rfl) ?_)
    exact Goes.same hi rfl
   replace hm := ck_some hm; obtain ⟨hc45, hm⟩ := hm
   refine Dw_op (VP O [] (rInt .i64) (b.getD i_1.toNat default)) (VP.stab _ _) (fun ρ42 w43 g hle hi ht => ?_) ?_
   ·
    obtain ⟨-, hst, -⟩ := hle
    replace f_b := f_b.step hst
    refine StepOp_plain (op_indexAddr (q := (rInt .i64)) ty22 ty3 (ht 16 rfl) (ht 17 rfl) f_b rfl hc45.1 hc45.2 ?_)
    intro p46 f47
    exact Goes.same hi ⟨_, rfl, f47⟩
   refine Dw_op (VD O [] (vI .i64) (b.getD i_1.toNat default)) (VD.stab _ _) (fun ρ48 w49 g hle hi ht => ?_) ?_
   ·
    obtain ⟨-, hst, -⟩ := hle
    obtain ⟨p51, q52, f53⟩ := ht 18 rfl
    refine StepOp_plain (op_loadP ty3 q52 f53 rfl ?_)
    intro v54 h55
    obtain ⟨rfl, r_y56⟩ := un_int h55
    exact Goes.same hi (show Vr.vd (vI .i64) _ _ _ _ from ⟨rfl, r_y56⟩)
   refine Dw_nil fun w61 g62 hl63 hi64 => ?_
   obtain ⟨-, hst65, -⟩ := hl63
   obtain ⟨hs67, p66⟩ := Step.nx hi64
   rintro v68 h69
   replace h69 : Vr.vd (vI .i64) _ _ _ _ := h69
   obtain ⟨rfl, r_y70⟩ := h69
   rintro _ ⟨p71, rfl, f72⟩
   rintro _ rfl
   rintro _ rfl
   rintro v73 h74
   replace h74 : Vr.vd (vI .i64) _ _ _ _ := h74
   obtain ⟨rfl, r_y75⟩ := h74
   rintro _ ⟨p76, rfl, f77⟩
   rintro _ rfl
   rintro _ rfl
   have p78 : Step (ks [] O) w7 (ks [] O) w61 := hst65.trans p66
   replace f72 := f72.step p66; replace f77 := f77.step p66; replace f_a := f_a.step p78; replace f_b := f_b.step p78; replace ch12 := ch12.trans p78; clear p78 hs8
   refine Rg_op rfl (op_gtr rfl rfl ?_)
   refine Rg_nil ?_
   refine Wp_cond rfl (fun hc79 => ?_) (fun hc79 => ?_)
   ·
    replace hm := bif_t hm hc79
    refine Wp_seq ?_
    clear f_a f_b f72 f77
    refine Wp_region ?_
    refine Rg_op rfl (op_assign (v := (Value.bool false)) rfl ?_)
    refine Rg_nil ?_
    refine Wp_ret ?_
    have hz := step_all hs67
    refine ⟨_, (show Closes [] _ _ from rfl), [(Value.bool false)], ⟨rfl, trivial⟩, hs67.ext, ?_⟩
    exact Vr.eq (a := vB) (x := false) rfl (Option.some.inj hm)
   ·
    replace hm := bif_f hm hc79
    refine Wp_skip ?_
    clear f72 f77
    refine Wp_region ?_
    refine Rg_op rfl (op_move (v := (Value.int .i64 i_1)) rfl ?_)
    refine Rg_op rfl (op_addw rfl rfl ?_)
    refine Rg_op rfl (op_assign (v := (Value.int .i64 (IntKind.wrap .i64 (i_1 + 1)))) rfl ?_)
    refine Rg_nil ?_
    exact hK5 _ _ ⟨(IntKind.wrap .i64 (i_1 + 1)), _, rfl, ⟨(by repeat (first | with_reducible exact Out.refl _ _ | refine Out.upd ?_ rfl | refine Out.updL ?_ rfl | refine Out.mix' ?_ rfl | exact Out.refl _ _)), rfl, rfl, trivial⟩, ch12, hs67, (inK_wrap .i64 _), jnE1 hsf4 hm⟩
  ·
   replace hm := bif_f hm hc14
   refine Wp_exit ?_
   refine Wp_seq ?_
   clear f_a f_b
   refine Wp_region ?_
   refine Rg_op rfl (op_assign (v := (Value.bool true)) rfl ?_)
   refine Rg_nil ?_
   refine Wp_ret ?_
   have hz := step_all hs8
   refine ⟨_, (show Closes [] _ _ from rfl), [(Value.bool true)], ⟨rfl, trivial⟩, hs8.ext, ?_⟩
   exact Vr.eq (a := vB) (x := true) rfl (Option.some.inj hm)

end Go.Fx


