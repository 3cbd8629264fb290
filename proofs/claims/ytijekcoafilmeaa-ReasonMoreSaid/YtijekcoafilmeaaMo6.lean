/- More variables, more places and less capacity do not spoil a proof. -/
import Derived.Test.YtijekcoafilmeaaMo5
import Derived.Test.YtijekcoafilmeaaRows
import Derived.WalkKit
import Derived.ShutString
/- ReasonMore. -/
set_option linter.unusedSimpArgs false
set_option linter.unusedVariables false
set_option maxRecDepth 100000
namespace Go.Fx
open Go Go.RowKit
theorem way_all {p : XProblem} {ch : List Int} (hf : Fit ch (cnV p.variables)) : wayOf p ch ∈ ways (pairsOf p ((List.range p.variables.length).map fun v : Nat => (v : Int))) := by
  have e : (pairsOf p ((List.range p.variables.length).map fun v : Nat => (v : Int))) = p.variables.map fun v => v.choices.map fun c => (v, c) := by
    unfold pairsOf
    rw [List.map_map]
    refine List.ext_getElem (by simp) fun i h1 h2 => ?_
    have hi : i < p.variables.length := by simpa using h2
    simp only [List.getElem_map, List.getElem_range, Function.comp, Int.toNat_natCast, getD_of (List.getElem?_eq_getElem hi)]
  rw [e]
  exact mem_ways_iff.2 ⟨ch, hf, rfl⟩
theorem proves_over {p : XProblem} {r : XReason} (hk : Prob p) (hs : Small p) (h2 : okReason p r = true) (h : provesB p r = true) {ch : List Int} (hf : Fit ch (cnV p.variables)) : overL p (wayOf p ch) ≠ [] := by
  obtain ⟨i1, i2, i3, i4⟩ := reason_idx h2
  have hr := (adj_pairwise (lt := fun x y : Int => decide (x < y)) (by intro a b c; simp; omega) i2).imp fun {a b} h => (of_decide_eq_true h : a < b)
  have hall : ((List.range p.variables.length).map fun v : Nat => (v : Int)).Pairwise fun a b : Int => a < b := by
    rw [List.pairwise_map]; exact List.pairwise_lt_range.imp fun h => by omega
  have hn : ((List.range p.variables.length).map fun v : Nat => (v : Int)).Nodup := hall.imp fun h => by omega
  have hsub : r.variables.Sublist ((List.range p.variables.length).map fun v : Nat => (v : Int)) :=
    rising_sub (lt := fun a b : Int => a < b) (fun a b c => by omega) (fun a => by omega) hall hr fun x hx => by
      have := i1 x hx
      exact List.mem_map.2 ⟨x.toNat, List.mem_range.2 (by omega), by omega⟩
  have hin : ∀ i ∈ (List.range p.variables.length).map (fun v : Nat => (v : Int)), 0 ≤ i ∧ i < (p.variables.length : Int) := by
    intro i hi
    obtain ⟨k, hkk, rfl⟩ := List.mem_map.1 hi
    have := List.mem_range.1 hkk; omega
  have hall2 := proves_vars (r' := ⟨(List.range p.variables.length).map fun v : Nat => (v : Int), r.places⟩) hk hs hsub hin hn (fun x hx => hx) h
  unfold provesB at hall2
  obtain ⟨x, hx, hd⟩ := List.any_eq_true.1 (List.all_eq_true.1 hall2 _ (way_all hf))
  have hd := of_decide_eq_true hd
  obtain ⟨b1, b2⟩ := i3 x hx
  rw [overL_ne]
  have ex : (⟨((x.leaf.toNat : Nat) : Int), ((x.cell.toNat : Nat) : Int)⟩ : XPlace) = x := by
    obtain ⟨a, b⟩ := x
    simp only at b1 b2
    rw [Int.toNat_of_nonneg b1.1, Int.toNat_of_nonneg b2.1]
  exact ⟨x.leaf.toNat, x.cell.toNat, by omega, by omega, by rw [ex]; exact hd⟩
theorem proves_ne {p : XProblem} {r : XReason} (hk : Prob p) (h2 : okReason p r = true) (h : provesB p r = true) : 1 ≤ p.cells.length ∧ 1 ≤ p.variables.length := by
  obtain ⟨i1, i2, i3, i4⟩ := reason_idx h2
  have hr := (adj_pairwise (lt := fun x y : Int => decide (x < y)) (by intro a b c; simp; omega) i2)
  have hn : r.variables.Nodup := hr.imp fun h => by simp at h; omega
  have hch : ∀ i ∈ r.variables, ((varOf p i).choices.getD 0 default) ∈ (varOf p i).choices := by
    intro i hi
    have := i1 i hi
    have hm : varOf p i ∈ p.variables := by
      unfold varOf; rw [getD_of (List.getElem?_eq_getElem (show i.toNat < p.variables.length by omega))]; exact List.getElem_mem _
    have := hk.ch _ hm
    rw [getD_of (List.getElem?_eq_getElem (show 0 < (varOf p i).choices.length by omega))]; exact List.getElem_mem _
  obtain ⟨x, hx, hlt⟩ := (provesB_fun hn).1 h (fun i => (varOf p i).choices.getD 0 default) hch
  obtain ⟨b1, b2⟩ := i3 x hx
  refine ⟨by omega, ?_⟩
  cases hv : r.variables with
  | nil => rw [hv] at hlt; have := cap_nonneg hk x; simp [demF] at hlt; omega
  | cons a t => have := i1 a (by rw [hv]; exact List.mem_cons_self ..); omega
theorem inK_idx {i : Int} {n : Nat} (h : 0 ≤ i ∧ i < (n : Int)) (hn : n ≤ 1000000) : InK .i64 i := by
  have e : i = ((i.toNat : Nat) : Int) := by omega
  rw [e]; exact inK_of (by omega)
theorem ReasonMore_law (p : XProblem) (r : XReason) (va pl le : UInt8) (ch : List Int) (hp : smXProblem p) (hr : smXReason r) (_ : SmT va) (_ : SmT pl) (_ : SmT le) (hch : SmL (InK .i64) ch) : m4_overflightlaw32_ReasonMore p r va pl le ch = some true := by
  unfold m4_overflightlaw32_ReasonMore
  obtain ⟨b, hb, hS⟩ := m18_eq hp
  obtain ⟨b2, hb2, hS2⟩ := m19_eq r
  rw [sane32, hb, hb2]
  simp only [Option.bind_some, Bool.not_true, cond_false, jn_eq]
  cases b
  · rfl
  cases b2
  · rfl
  simp only [Bool.not_true, cond_false]
  cases decide ((20 : Int) < (ch.length : Int))
  rotate_left
  · rfl
  have hs := hS rfl
  have hv := (hS2 rfl).1
  simp only [cond_false]
  rw [m17_eq hp hr hs hv]
  cases h1 : okProb p
  · rfl
  cases h2 : okReason p r
  · rfl
  cases h3 : provesB p r
  · rfl
  have hk := Prob.of h1
  obtain ⟨i1, i2, i3, i4⟩ := reason_idx h2
  obtain ⟨nc, nv⟩ := proves_ne hk h2 h3
  simp only [cond_true, Option.bind_some, ne_eq, not_true_eq_false, decide_false, cond_false, Bool.not_true]
  have hca := hs.caps; have hce := hs.cells; have hva := hs.vars
  obtain ⟨N, hN⟩ : ∃ N, N = p.cells.length * p.capacity.length := ⟨_, rfl⟩
  have hN2 : N ≤ 48 := by rw [hN]; have := Nat.mul_le_mul hce hca; omega
  have hN1 : 1 ≤ N := by rw [hN]; have := Nat.mul_le_mul nc hk.cap; omega
  have hr' := (adj_pairwise (lt := fun x y : Int => decide (x < y)) (by intro a b c; simp; omega) i2).imp fun {a b} h => (of_decide_eq_true h : a < b)
  have tail : loop2 (m4_overflightlaw32_ReasonMore_B0 p r va pl le) (((p.variables.length : Int) - 0).toNat + 1) 0 ([] : List Int) = some true := by
    refine more_B0 (sm_len hr.1) hs nc hN hN1 hN2 (more_B2 (sm_len hr.2) hs nc hN hN2 (more_B4 hk hs ?_ ?_ fun rows hrows => ?_))
    · have hm := moreL_len r ((va.toNat : Int).tmod (p.variables.length : Int)) p.variables.length
      have hmi : ∀ i ∈ moreL r ((va.toNat : Int).tmod (p.variables.length : Int)) p.variables.length, 0 ≤ i ∧ i < (p.variables.length : Int) := fun i hi => (moreL_mem.1 hi).1
      have hmr := moreL_rise r ((va.toNat : Int).tmod (p.variables.length : Int)) p.variables.length
      rw [m17_eq hp (r := ⟨moreL r ((va.toNat : Int).tmod (p.variables.length : Int)) p.variables.length, r.places⟩) ⟨⟨Nat.le_trans hm (by omega), fun i hi => inK_idx (hmi i hi) (by omega)⟩, hr.2⟩ hs (Nat.le_trans hm (by omega)), h1]
      have ho : okReason p ⟨moreL r ((va.toNat : Int).tmod (p.variables.length : Int)) p.variables.length, r.places⟩ = true := by
        unfold okReason at h2 ⊢
        simp only [Bool.and_eq_true, List.all_eq_true, okIdx_iff] at h2 ⊢
        exact ⟨⟨hmi, pairwise_adj (hmr.imp fun h => decide_eq_true h)⟩, h2.2⟩
      rw [ho, proves_vars (r' := ⟨moreL r ((va.toNat : Int).tmod (p.variables.length : Int)) p.variables.length, r.places⟩) hk hs (rising_sub (lt := fun a b : Int => a < b) (fun a b c => by omega) (fun a => by omega) hmr hr' fun x hx => moreL_mem.2 ⟨i1 x hx, .inr hx⟩) hmi (hmr.imp fun h => by omega) (fun x hx => hx) h3]
      rfl
    · have hwo := wideL_ok (p := p) (r := r) (m := (pl.toNat : Int).tmod (N : Int)) nc hN hN2
      have hwl := wideL_len p r ((pl.toNat : Int).tmod (N : Int)) N
      rw [m17_eq hp (r := ⟨r.variables, wideL p r ((pl.toNat : Int).tmod (N : Int)) N⟩) ⟨hr.1, ⟨Nat.le_trans hwl (by omega), fun x hx => by
        have h := hwo x hx
        have e1 : x.leaf = ((x.leaf.toNat : Nat) : Int) := by omega
        have e2 : x.cell = ((x.cell.toNat : Nat) : Int) := by omega
        exact ⟨by rw [e1]; exact inK_of (by omega), by rw [e2]; exact inK_of (by omega)⟩⟩⟩ hs hv, h1]
      have ho : okReason p ⟨r.variables, wideL p r ((pl.toNat : Int).tmod (N : Int)) N⟩ = true := by
        unfold okReason at h2 ⊢
        simp only [Bool.and_eq_true, List.all_eq_true, okPlace, okIdx_iff] at h2 ⊢
        exact ⟨h2.1, hwo, wideL_rise nc r _ (by omega)⟩
      rw [ho, proves_vars (r := r) (r' := ⟨r.variables, wideL p r ((pl.toNat : Int).tmod (N : Int)) N⟩) hk hs (List.Sublist.refl _) i1 (hr'.imp fun h => by omega) (fun x hx => wideL_mem nc hN hN2 hx (i3 x hx).1 (i3 x hx).2) h3]
      rfl
    · obtain ⟨t1, t2, t3, t4⟩ := tight_ok hp h1 hs hrows
      rw [m17_eq t1 hr t3 hv, t2, tight_reason hrows.1 h2, tight_proves t4 h3]; rfl
  obtain ⟨e, he, hz⟩ := m47_any hp hs ch (sm_len hch)
  by_cases h0 : e = 0
  · obtain ⟨_, hf⟩ := hz h0
    obtain ⟨v, v1, v2, v3⟩ := m14_fit hp h1 hs hf
    have hov := proves_over hk hs h2 h3 hf
    rw [v1]
    have hpos : ¬ v.getD 0 default = 0 := by
      have : decide (0 < v.getD 0 default) = true := by rw [v3]; simp [hov]
      have := of_decide_eq_true this; omega
    simp only [Option.bind_some, decide_true, cond_true, v2]
    rw [show decide (¬(((4 : Nat) : Int) = 4)) = false by decide, cond_false, ck_eq (by decide), decide_eq_false hpos, cond_false, ck_eq (by omega)]
    exact tail
  · have hval : m14_problem_Value p ch = some ([], e) := by
      unfold m14_problem_Value
      rw [he, Option.bind_some]
      simp only [ne_eq, h0, not_false_eq_true, decide_true, cond_true]
    rw [hval]
    simp only [Option.bind_some, h0, decide_false, cond_false]
    rw [ck_eq (by omega)]
    exact tail
end Go.Fx
namespace Go.Proofs.Ytijekcoafilmeaa.lawReasonMore
open Go Go.Proofs Go.ChangeShapes Go.WideShapes Go.ChangeAt Go.RowKit Go.Fx
open Go.ChangeMaps (open_string shut_string)
set_option linter.unusedVariables false
set_option maxRecDepth 100000
theorem own : ownKnob Try.prog.godebug = none := by kernel_rfl
theorem laidOut : laidOutB Try.prog = true := by kernel_rfl
set_option maxRecDepth 100000 in
set_option maxHeartbeats 1000000 in
theorem lifted (os : Os) (started : os.Started) (H : Type) (enc : TypeId × Value → H) :
    ReturnsInHanded {} Try.checked os 4 .any (Rows.reasonMoreSpec.pre6 enc Try.prog Try.f4 Rows.reasonMoreRow.domain false) (Rows.reasonMoreSpec.post enc Try.prog Try.f4 false true false false) := by
  refine returnsInHanded_of_change_sized (C := Try.checked) own started (by kernel_rfl) Try.func4
    (ChangeSpec.witness6 (enc := enc) (C := Try.checked) false ⟨#[], #[.agg #[(.slice none 0 0), (.slice none 0 0), (.slice none 0 0)], .agg #[(.slice none 0 0), (.slice none 0 0)], (.int .u8 0), (.int .u8 0), (.int .u8 0), (.slice none 0 0)], []⟩ 8 (by kernel_rfl) (by kernel_rfl) (by kernel_rfl) (by kernel_rfl)) ?_
  intro W base args ds gs before hval0 hW hcnd hsz _
  have hval : ∀ (j : Nat) t v, Try.f4.params[j]? = some t → args[j]? = some v → Value.okWide Try.prog W .any base t v := hval0
  have hW' := hW
  obtain ⟨p, q, hA0, hV, rfl, hfz, hnd⟩ := hW
  have hA : DataW.TrodAll enc Try.prog W 0 (fun _ => true) true Try.f4.params.toList args.toList ds p := hA0
  rw [Try.params4] at hA hval
  obtain ⟨v0, vs0, d0, ds0, p0, q0, hargs, rfl, rfl, h0, r0⟩ := trodAll_cons hA
  obtain ⟨v1, vs1, d1, ds1, p1, q1, rfl, rfl, rfl, h1, r1⟩ := trodAll_cons r0
  obtain ⟨v2, vs2, d2, ds2, p2, q2, rfl, rfl, rfl, h2, r2⟩ := trodAll_cons r1
  obtain ⟨v3, vs3, d3, ds3, p3, q3, rfl, rfl, rfl, h3, r3⟩ := trodAll_cons r2
  obtain ⟨v4, vs4, d4, ds4, p4, q4, rfl, rfl, rfl, h4, r4⟩ := trodAll_cons r3
  obtain ⟨v5, vs5, d5, ds5, p5, q5, rfl, rfl, rfl, h5, r5⟩ := trodAll_cons r4
  obtain ⟨rfl, rfl, rfl⟩ := trodAll_nil r5
  obtain rfl : args = #[v0, v1, v2, v3, v4, v5] := by cases args; simp_all
  obtain ⟨rfl, rfl⟩ := trodVars_none hV
  have k0 := h0
  have lt0 : ∀ x ∈ p0, x.block < W.heap.size := by obtain ⟨m, hm⟩ := k0; exact DataW.trod_lt m _ _ _ hm
  obtain ⟨fu0, hf0⟩ := h0
  obtain ⟨p, rr0, sm0⟩ := rd26.2 _ _ _ hf0
  replace sm0 := sm0 (fun n hn => by have := List.all_eq_true.1 hsz n (DataW.weights_mem_each (j := 0) (t := 26) rfl rfl n hn); simpa using this)
  obtain ⟨⟨cs0⟩, rfl, _⟩ := okWide_struct Try.underlying26 (hval 0 26 v0 rfl rfl)
  replace rr0 : rXProblem.rd W [] cs0 p := rr0
  obtain ⟨_, _, rfl, ⟨a_p_cells, c_p_cells, rfl, f_p_cells⟩, ⟨_, _, rfl, ⟨a_p_capacity, c_p_capacity, rfl, f_p_capacity⟩, ⟨a_p_variables, c_p_variables, rfl, f_p_variables⟩⟩⟩ := rr0
  have k1 := h1
  have lt1 : ∀ x ∈ p1, x.block < W.heap.size := by obtain ⟨m, hm⟩ := k1; exact DataW.trod_lt m _ _ _ hm
  obtain ⟨fu1, hf1⟩ := h1
  obtain ⟨r_, rr1, sm1⟩ := rd34.2 _ _ _ hf1
  replace sm1 := sm1 (fun n hn => by have := List.all_eq_true.1 hsz n (DataW.weights_mem_each (j := 1) (t := 34) rfl rfl n hn); simpa using this)
  obtain ⟨⟨cs1⟩, rfl, _⟩ := okWide_struct Try.underlying34 (hval 1 34 v1 rfl rfl)
  replace rr1 : rXReason.rd W [] cs1 r_ := rr1
  obtain ⟨_, _, rfl, ⟨a_r__variables, c_r__variables, rfl, f_r__variables⟩, ⟨a_r__places, c_r__places, rfl, f_r__places⟩⟩ := rr1
  have k2 := h2
  have lt2 : ∀ x ∈ p2, x.block < W.heap.size := by obtain ⟨m, hm⟩ := k2; exact DataW.trod_lt m _ _ _ hm
  obtain ⟨fu2, hf2⟩ := h2
  obtain ⟨variable_, rr2, sm2⟩ := rd5.2 _ _ _ hf2
  replace sm2 := sm2 (fun n hn => by have := List.all_eq_true.1 hsz n (DataW.weights_mem_each (j := 2) (t := 5) rfl rfl n hn); simpa using this)
  obtain ⟨n2, rfl⟩ := okWide_int Try.underlying5 (hval 2 5 v2 rfl rfl)
  replace rr2 : rU8.rd W [] [.int .u8 n2] variable_ := rr2
  obtain rfl : n2 = (variable_.toNat : Int) := by have := un_u8 rr2; simpa using this
  have k3 := h3
  have lt3 : ∀ x ∈ p3, x.block < W.heap.size := by obtain ⟨m, hm⟩ := k3; exact DataW.trod_lt m _ _ _ hm
  obtain ⟨fu3, hf3⟩ := h3
  obtain ⟨place, rr3, sm3⟩ := rd5.2 _ _ _ hf3
  replace sm3 := sm3 (fun n hn => by have := List.all_eq_true.1 hsz n (DataW.weights_mem_each (j := 3) (t := 5) rfl rfl n hn); simpa using this)
  obtain ⟨n3, rfl⟩ := okWide_int Try.underlying5 (hval 3 5 v3 rfl rfl)
  replace rr3 : rU8.rd W [] [.int .u8 n3] place := rr3
  obtain rfl : n3 = (place.toNat : Int) := by have := un_u8 rr3; simpa using this
  have k4 := h4
  have lt4 : ∀ x ∈ p4, x.block < W.heap.size := by obtain ⟨m, hm⟩ := k4; exact DataW.trod_lt m _ _ _ hm
  obtain ⟨fu4, hf4⟩ := h4
  obtain ⟨less, rr4, sm4⟩ := rd5.2 _ _ _ hf4
  replace sm4 := sm4 (fun n hn => by have := List.all_eq_true.1 hsz n (DataW.weights_mem_each (j := 4) (t := 5) rfl rfl n hn); simpa using this)
  obtain ⟨n4, rfl⟩ := okWide_int Try.underlying5 (hval 4 5 v4 rfl rfl)
  replace rr4 : rU8.rd W [] [.int .u8 n4] less := rr4
  obtain rfl : n4 = (less.toNat : Int) := by have := un_u8 rr4; simpa using this
  have k5 := h5
  have lt5 : ∀ x ∈ p5, x.block < W.heap.size := by obtain ⟨m, hm⟩ := k5; exact DataW.trod_lt m _ _ _ hm
  obtain ⟨fu5, hf5⟩ := h5
  obtain ⟨choices, rr5, sm5⟩ := rd31.2 _ _ _ hf5
  replace sm5 := sm5 (fun n hn => by have := List.all_eq_true.1 hsz n (DataW.weights_mem_each (j := 5) (t := 31) rfl rfl n hn); simpa using this)
  obtain ⟨b5, l5, c5, rfl⟩ := okWide_slice Try.underlying31 (hval 5 31 v5 rfl rfl)
  replace rr5 : (rSl (rInt .i64)).rd W [] [.slice b5 l5 c5] choices := rr5
  obtain ⟨a_choices, c_choices, e5, f_choices⟩ := un_sl rr5
  simp only [Value.slice.injEq] at e5
  obtain ⟨rfl, rfl, rfl⟩ := e5
  have hm : m4_overflightlaw32_ReasonMore p r_ variable_ place less choices = some true := ReasonMore_law _ _ _ _ _ _ sm0 sm1 sm2 sm3 sm4 sm5
  have hc := Fn.calls (c4_overflightlaw32_ReasonMore (p := p) (r_ := r_) (variable_ := variable_) (place := place) (less := less) (choices := choices) (w := W) (O := []) (by simp) f_p_cells f_p_capacity f_p_variables f_r__variables f_r__places f_choices hm)
  clear hA0 hval0
  refine Calls.mono hc ?_
  rintro e W' ⟨v, rfl, bel, hv⟩
  replace bel := bel.below; obtain rfl : v = .bool true := hv
  exact ⟨_, rfl, _, _, _, [], _, [], hW', trodAll_mk1 (shut_bool Try.underlying4 _), (trodAll_cons_mk (Below.trod laidOut (by kernel_rfl) (of_decide_eq_true (by kernel_rfl)) k0 bel lt0) (trodAll_cons_mk (Below.trod laidOut (by kernel_rfl) (of_decide_eq_true (by kernel_rfl)) k1 bel lt1) (trodAll_cons_mk (Below.trod laidOut (by kernel_rfl) (of_decide_eq_true (by kernel_rfl)) k2 bel lt2) (trodAll_cons_mk (Below.trod laidOut (by kernel_rfl) (of_decide_eq_true (by kernel_rfl)) k3 bel lt3) (trodAll_cons_mk (Below.trod laidOut (by kernel_rfl) (of_decide_eq_true (by kernel_rfl)) k4 bel lt4) (trodAll_cons_mk (Below.trod laidOut (by kernel_rfl) (of_decide_eq_true (by kernel_rfl)) k5 bel lt5) trodAll_mk0)))))), rfl, bel.frame _, fun h => by cases h⟩
theorem over : Rows.reasonMoreRow.holds Try.pinned (OpenSpec.ofChange Rows.reasonMoreSpec) :=
  OpenClaim.holds_of_wide 4 Try.f4 rfl rfl rfl rfl rfl rfl rfl ⟨rfl, rfl, rfl, rfl, rfl⟩ rfl rfl rfl rfl rfl (by kernel_rfl) Try.func4 (by kernel_rfl)
    (of_decide_eq_true (by kernel_rfl)) (by unfold Func.isWrapper; first | (rw [if_pos (by decide +kernel)]; kernel_rfl) | (rw [if_neg (by decide +kernel)]; exact ⟨rfl, rfl⟩))
    (fun os started H enc _ => lifted os started H enc)
theorem proved : Rows.ReasonMoreSaid := over
end Go.Proofs.Ytijekcoafilmeaa.lawReasonMore
