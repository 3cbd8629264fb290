/- Part 3 of the proof: the law JournalSurvives holds for every number of sectors and every script of crashes. -/
import Derived.Test.YtegomkljijgjjaaSurv2
set_option linter.unusedVariables false
set_option linter.unusedSimpArgs false
set_option maxRecDepth 100000
set_option maxHeartbeats 0
namespace Go.Fx
open Go Go.RowKit Go.Proofs
def m63_journal_encode (generation : Int) (number : Int) (kind : UInt8) (b : List UInt8) : Option (List UInt8) :=
 ck ((0 : Int) ≤ 0 ∧ (0 : Int) < 4 ∧ (4 : Int) ≤ ((List.replicate 128 (0 : UInt8)).length : Int)) <|
 (m71_journal_put (((List.replicate 128 (0 : UInt8)).drop 0).take (4 - 0)) generation).bind fun put_1 =>
 ck ((0 : Int) ≤ 8 ∧ (8 : Int) < 10 ∧ (10 : Int) ≤ ((setw (List.replicate 128 (0 : UInt8)) 0 4 put_1).length : Int)) <|
 (m71_journal_put (((setw (List.replicate 128 (0 : UInt8)) 0 4 put_1).drop 8).take (10 - 8)) (IntKind.wrap .u64 number)).bind fun put_2 =>
 ck ((0 : Int) ≤ (10 : Int) ∧ (10 : Int) < ((setw (setw (List.replicate 128 (0 : UInt8)) 0 4 put_1) 8 10 put_2).length : Int)) <|
 ck ((0 : Int) ≤ (11 : Int) ∧ (11 : Int) < (((setw (setw (List.replicate 128 (0 : UInt8)) 0 4 put_1) 8 10 put_2).set 10 kind).length : Int)) <|
 ck ((0 : Int) ≤ 12 ∧ (12 : Int) < 128 ∧ (128 : Int) ≤ ((((setw (setw (List.replicate 128 (0 : UInt8)) 0 4 put_1) 8 10 put_2).set 10 kind).set 11 (UInt8.ofNat (IntKind.wrap .u8 (b.length : Int)).toNat)).length : Int)) <|
 ck (12 < 128) <|
 ck ((0 : Int) ≤ 124 ∧ (124 : Int) < 128 ∧ (128 : Int) ≤ (((((setw (setw (List.replicate 128 (0 : UInt8)) 0 4 put_1) 8 10 put_2).set 10 kind).set 11 (UInt8.ofNat (IntKind.wrap .u8 (b.length : Int)).toNat)).take 12 ++ (b.take (128 - 12) ++ ((((setw (setw (List.replicate 128 (0 : UInt8)) 0 4 put_1) 8 10 put_2).set 10 kind).set 11 (UInt8.ofNat (IntKind.wrap .u8 (b.length : Int)).toNat)).drop 12).drop (min b.length (128 - 12)))).length : Int)) <|
 (m71_journal_put ((((((setw (setw (List.replicate 128 (0 : UInt8)) 0 4 put_1) 8 10 put_2).set 10 kind).set 11 (UInt8.ofNat (IntKind.wrap .u8 (b.length : Int)).toNat)).take 12 ++ (b.take (128 - 12) ++ ((((setw (setw (List.replicate 128 (0 : UInt8)) 0 4 put_1) 8 10 put_2).set 10 kind).set 11 (UInt8.ofNat (IntKind.wrap .u8 (b.length : Int)).toNat)).drop 12).drop (min b.length (128 - 12)))).drop 124).take (128 - 124)) generation).bind fun put_3 =>
 ck ((0 : Int) ≤ 4 ∧ (4 : Int) < 8 ∧ (8 : Int) ≤ ((setw ((((setw (setw (List.replicate 128 (0 : UInt8)) 0 4 put_1) 8 10 put_2).set 10 kind).set 11 (UInt8.ofNat (IntKind.wrap .u8 (b.length : Int)).toNat)).take 12 ++ (b.take (128 - 12) ++ ((((setw (setw (List.replicate 128 (0 : UInt8)) 0 4 put_1) 8 10 put_2).set 10 kind).set 11 (UInt8.ofNat (IntKind.wrap .u8 (b.length : Int)).toNat)).drop 12).drop (min b.length (128 - 12)))) 124 128 put_3).length : Int)) <|
 ck ((0 : Int) ≤ 8 ∧ (8 : Int) < 124 ∧ (124 : Int) ≤ ((setw ((((setw (setw (List.replicate 128 (0 : UInt8)) 0 4 put_1) 8 10 put_2).set 10 kind).set 11 (UInt8.ofNat (IntKind.wrap .u8 (b.length : Int)).toNat)).take 12 ++ (b.take (128 - 12) ++ ((((setw (setw (List.replicate 128 (0 : UInt8)) 0 4 put_1) 8 10 put_2).set 10 kind).set 11 (UInt8.ofNat (IntKind.wrap .u8 (b.length : Int)).toNat)).drop 12).drop (min b.length (128 - 12)))) 124 128 put_3).length : Int)) <|
 (m72_journal_sum (((setw ((((setw (setw (List.replicate 128 (0 : UInt8)) 0 4 put_1) 8 10 put_2).set 10 kind).set 11 (UInt8.ofNat (IntKind.wrap .u8 (b.length : Int)).toNat)).take 12 ++ (b.take (128 - 12) ++ ((((setw (setw (List.replicate 128 (0 : UInt8)) 0 4 put_1) 8 10 put_2).set 10 kind).set 11 (UInt8.ofNat (IntKind.wrap .u8 (b.length : Int)).toNat)).drop 12).drop (min b.length (128 - 12)))) 124 128 put_3).drop 8).take (124 - 8))).bind fun sum_1 =>
 (m71_journal_put (((setw ((((setw (setw (List.replicate 128 (0 : UInt8)) 0 4 put_1) 8 10 put_2).set 10 kind).set 11 (UInt8.ofNat (IntKind.wrap .u8 (b.length : Int)).toNat)).take 12 ++ (b.take (128 - 12) ++ ((((setw (setw (List.replicate 128 (0 : UInt8)) 0 4 put_1) 8 10 put_2).set 10 kind).set 11 (UInt8.ofNat (IntKind.wrap .u8 (b.length : Int)).toNat)).drop 12).drop (min b.length (128 - 12)))) 124 128 put_3).drop 4).take (8 - 4)) (IntKind.wrap .u64 sum_1)).bind fun put_4 =>
 ck ((setw (setw ((((setw (setw (List.replicate 128 (0 : UInt8)) 0 4 put_1) 8 10 put_2).set 10 kind).set 11 (UInt8.ofNat (IntKind.wrap .u8 (b.length : Int)).toNat)).take 12 ++ (b.take (128 - 12) ++ ((((setw (setw (List.replicate 128 (0 : UInt8)) 0 4 put_1) 8 10 put_2).set 10 kind).set 11 (UInt8.ofNat (IntKind.wrap .u8 (b.length : Int)).toNat)).drop 12).drop (min b.length (128 - 12)))) 124 128 put_3) 4 8 put_4).length = 128) <|
 some (setw (setw ((((setw (setw (List.replicate 128 (0 : UInt8)) 0 4 put_1) 8 10 put_2).set 10 kind).set 11 (UInt8.ofNat (IntKind.wrap .u8 (b.length : Int)).toNat)).take 12 ++ (b.take (128 - 12) ++ ((((setw (setw (List.replicate 128 (0 : UInt8)) 0 4 put_1) 8 10 put_2).set 10 kind).set 11 (UInt8.ofNat (IntKind.wrap .u8 (b.length : Int)).toNat)).drop 12).drop (min b.length (128 - 12)))) 124 128 put_3) 4 8 put_4)

theorem c63_journal_encode {w : World} {O : List Nat} {generation : Int} {number : Int} {kind : UInt8} {b : List UInt8} {a_b : Option Addr} {c_b : Nat} (hO : ∀ k ∈ O, k < w.heap.size) (r_generation : InK .u64 generation) (r_number : InK .i64 number) (f_b : SlR rU8 w O a_b c_b b) {x : (List UInt8)} (hm : m63_journal_encode generation number kind b = some x) :
  Ok Try.prog 63 [(Value.int .u64 generation), (Value.int .i64 number), (Value.int .u8 (kind.toNat : Int)), (Value.slice a_b b.length c_b)] w O (vC (rSl rU8)) x := by
 unfold m63_journal_encode at hm
 refine Fn_of_Wp (n := 35) (xs := [.tmp 8]) Try.func63 rfl Try.ntmps63 Try.results63 rfl ?_
 have hs := St.start hO
 refine Wp_seq ?_
 refine Wp_region ?_
 refine Rg_op rfl (op_assign (v := (Value.slice none 0 0)) rfl ?_)
 refine Rg_nil ?_
 refine Wp_seq ?_
 refine Wp_region ?_
 refine Rg_op rfl (op_alloc ty105 hs ?_)
 intro b1 w2 _ p3 hs4
 replace f_b := f_b.step p3; clear p3
 have f5 := Gs.of_cells (p := rU8) (e := 105) (bl := b1) (c := 128) (w := w2) (O := ks [(some b1, Obj.cells (List.replicate 128 (Value.int .u8 0)).toArray 105)] O) (Els.rep (p := rU8) (mk_u8 (show InK .u8 0 from by decide)) 128) (List.length_replicate ..) (le_lit rfl)
 refine Rg_nil ?_
 refine Wp_seq ?_
 refine Wp_region ?_
 replace hm := ck_some hm; obtain ⟨hc7, hm⟩ := hm
 refine Rg_op rfl (op_sliceA (l := 0) (h := 4) (m := 128) ty105 ty5 rfl rfl (bndI rfl (by omega)) rfl (by decide) (by omega) (by omega) (Nat.le_refl _) ?_)
 refine Rg_op rfl (op_move (v := (Value.int .u64 generation)) rfl ?_)
 replace hm := bd hm; obtain ⟨put_1, hv8, hm⟩ := hm
 obtain ⟨ho9, hb10, hh11, hg12⟩ := St.lendW (i := 0) hs4 rfl f5
 have wv13 := winval (bl := b1) (l := 0) (h := 4) (c := 128) (xs := (List.replicate 128 (0 : UInt8))) (by omega) (by omega) f5.le.1
 refine Rg_op rfl (op_callW (i := 0) Try.call71 hs4 rfl (c71_journal_put (b := (((List.replicate 128 (0 : UInt8)).drop 0).take (4 - 0))) (n := generation) (pre_b := (List.replicate 128 (0 : UInt8)).take 0) (post_b := (List.replicate 128 (0 : UInt8)).drop 4) ho9 hb10 hh11 (winG hg12 (by omega) (by omega)) r_generation hv8) (cons2 (rfl.trans wv13) (cons2 rfl rfl)) ?_)
 intro _ w14 o15 p16 hs17 f18; clear ho9 hb10 hh11 hg12 wv13
 replace f18 : Gs rU8 _ _ (ks [(some b1, o15)] O) _ _ (setw (List.replicate 128 (0 : UInt8)) 0 4 put_1) _ _ := f18
 replace f_b := f_b.step p16; clear p16 hs4
 refine Rg_nil ?_
 refine Wp_seq ?_
 refine Wp_region ?_
 replace hm := ck_some hm; obtain ⟨hc19, hm⟩ := hm
 refine Rg_op rfl (op_sliceA (l := 8) (h := 10) (m := 128) ty105 ty5 rfl (bndI rfl (by omega)) (bndI rfl (by omega)) rfl (by decide) (by omega) (by omega) (Nat.le_refl _) ?_)
 refine Rg_op rfl (op_move (v := (Value.int .i64 number)) rfl ?_)
 refine Rg_op rfl (op_conv Try.underlying3 Try.underlying93 rfl ?_)
 replace hm := bd hm; obtain ⟨put_2, hv20, hm⟩ := hm
 obtain ⟨ho21, hb22, hh23, hg24⟩ := St.lendW (i := 0) hs17 rfl f18
 have wv25 := winval (bl := b1) (l := 8) (h := 10) (c := 128) (xs := (setw (List.replicate 128 (0 : UInt8)) 0 4 put_1)) (by omega) (by omega) f18.le.1
 refine Rg_op rfl (op_callW (i := 0) Try.call71 hs17 rfl (c71_journal_put (b := (((setw (List.replicate 128 (0 : UInt8)) 0 4 put_1).drop 8).take (10 - 8))) (n := (IntKind.wrap .u64 number)) (pre_b := (setw (List.replicate 128 (0 : UInt8)) 0 4 put_1).take 8) (post_b := (setw (List.replicate 128 (0 : UInt8)) 0 4 put_1).drop 10) ho21 hb22 hh23 (winG hg24 (by omega) (by omega)) (inK_wrap .u64 _) hv20) (cons2 (rfl.trans wv25) (cons2 rfl rfl)) ?_)
 intro _ w26 o27 p28 hs29 f30; clear ho21 hb22 hh23 hg24 wv25
 replace f30 : Gs rU8 _ _ (ks [(some b1, o27)] O) _ _ (setw (setw (List.replicate 128 (0 : UInt8)) 0 4 put_1) 8 10 put_2) _ _ := f30
 replace f_b := f_b.step p28; clear p28 hs17
 refine Rg_nil ?_
 refine Wp_seq ?_
 refine Wp_region ?_
 refine Rg_op rfl (op_move (v := (Value.int .u8 (kind.toNat : Int))) rfl ?_)
 refine Rg_op rfl (op_move (v := (Value.slice a_b b.length c_b)) rfl ?_)
 refine Rg_op rfl (op_len Try.underlying41 rfl ?_)
 have rl31 := inK_len f_b
 refine Rg_op rfl (run1_u8 (e := (IntKind.wrap .u8 (b.length : Int))) (inK_wrap .u8 _) (fun _ hk => op_conv Try.underlying3 Try.underlying5 rfl hk) ?_)
 replace hm := ck_some hm; obtain ⟨hc32, hm⟩ := hm
 refine Rg_op rfl (op_indexAddrAG ty105 ty5 rfl rfl f30 hc32 ?_)
 refine Rg_op_ (op_storeG (vs := [(Value.int .u8 (kind.toNat : Int))]) (i := 0) (m := 10) ty5 rfl hs29 rfl rfl rfl rfl f30 hc32 mkU8 ?_)
 intro w33 o36 p34 hs35 f37
 replace f37 : Gs _ _ _ _ _ _ ((setw (setw (List.replicate 128 (0 : UInt8)) 0 4 put_1) 8 10 put_2).set 10 kind) _ _ := f37
 replace f_b := f_b.step p34; clear p34 hs29
 replace hm := ck_some hm; obtain ⟨hc38, hm⟩ := hm
 refine Rg_op rfl (op_indexAddrAG ty105 ty5 rfl rfl f37 hc38 ?_)
 refine Rg_op_ (op_storeG (vs := [(Value.int .u8 ((UInt8.ofNat (IntKind.wrap .u8 (b.length : Int)).toNat).toNat : Int))]) (i := 0) (m := 11) ty5 rfl hs35 rfl rfl rfl rfl f37 hc38 mkU8 ?_)
 intro w39 o42 p40 hs41 f43
 replace f43 : Gs _ _ _ _ _ _ (((setw (setw (List.replicate 128 (0 : UInt8)) 0 4 put_1) 8 10 put_2).set 10 kind).set 11 (UInt8.ofNat (IntKind.wrap .u8 (b.length : Int)).toNat)) _ _ := f43
 replace f_b := f_b.step p40; clear p40 hs35
 refine Rg_nil ?_
 refine Wp_seq ?_
 refine Wp_region ?_
 replace hm := ck_some hm; obtain ⟨hc44, hm⟩ := hm
 refine Rg_op rfl (op_sliceA (l := 12) (h := 128) (m := 128) ty105 ty5 rfl (bndI rfl (by omega)) rfl rfl (by decide) (by omega) (by omega) (Nat.le_refl _) ?_)
 refine Rg_op rfl (op_move (v := (Value.slice a_b b.length c_b)) rfl ?_)
 replace hm := ck_some hm; obtain ⟨hc45, hm⟩ := hm
 obtain ⟨ns46, he47, hr48⟩ := f_b.src
 refine Rg_op rfl (op_copyW (p := rU8) (xs := (((setw (setw (List.replicate 128 (0 : UInt8)) 0 4 put_1) 8 10 put_2).set 10 kind).set 11 (UInt8.ofNat (IntKind.wrap .u8 (b.length : Int)).toNat))) (i := 0) (l := 12) (h := 128) ty41 ty5 rfl hs41 rfl rfl f43 rfl he47 hr48 hc45 (by omega) ?_)
 intro o52 w49 p50 hs51 f53
 replace f_b := f_b.step p50; clear p50 hs41
 have r54 : InK .i64 ((min b.length (128 - 12) : Nat) : Int) := inK_of (by have := f53.le; have hm : maxLen = 9223372036854775807 := rfl; simp at this ⊢; omega)
 refine Rg_nil ?_
 refine Wp_seq ?_
 clear f_b
 refine Wp_region ?_
 replace hm := ck_some hm; obtain ⟨hc55, hm⟩ := hm
 refine Rg_op rfl (op_sliceA (l := 124) (h := 128) (m := 128) ty105 ty5 rfl (bndI rfl (by omega)) rfl rfl (by decide) (by omega) (by omega) (Nat.le_refl _) ?_)
 refine Rg_op rfl (op_move (v := (Value.int .u64 generation)) rfl ?_)
 replace hm := bd hm; obtain ⟨put_3, hv56, hm⟩ := hm
 obtain ⟨ho57, hb58, hh59, hg60⟩ := St.lendW (i := 0) hs51 rfl f53
 have wv61 := winval (bl := b1) (l := 124) (h := 128) (c := 128) (xs := ((((setw (setw (List.replicate 128 (0 : UInt8)) 0 4 put_1) 8 10 put_2).set 10 kind).set 11 (UInt8.ofNat (IntKind.wrap .u8 (b.length : Int)).toNat)).take 12 ++ (b.take (128 - 12) ++ ((((setw (setw (List.replicate 128 (0 : UInt8)) 0 4 put_1) 8 10 put_2).set 10 kind).set 11 (UInt8.ofNat (IntKind.wrap .u8 (b.length : Int)).toNat)).drop 12).drop (min b.length (128 - 12))))) (by omega) (by omega) f53.le.1
 refine Rg_op rfl (op_callW (i := 0) Try.call71 hs51 rfl (c71_journal_put (b := ((((((setw (setw (List.replicate 128 (0 : UInt8)) 0 4 put_1) 8 10 put_2).set 10 kind).set 11 (UInt8.ofNat (IntKind.wrap .u8 (b.length : Int)).toNat)).take 12 ++ (b.take (128 - 12) ++ ((((setw (setw (List.replicate 128 (0 : UInt8)) 0 4 put_1) 8 10 put_2).set 10 kind).set 11 (UInt8.ofNat (IntKind.wrap .u8 (b.length : Int)).toNat)).drop 12).drop (min b.length (128 - 12)))).drop 124).take (128 - 124))) (n := generation) (pre_b := ((((setw (setw (List.replicate 128 (0 : UInt8)) 0 4 put_1) 8 10 put_2).set 10 kind).set 11 (UInt8.ofNat (IntKind.wrap .u8 (b.length : Int)).toNat)).take 12 ++ (b.take (128 - 12) ++ ((((setw (setw (List.replicate 128 (0 : UInt8)) 0 4 put_1) 8 10 put_2).set 10 kind).set 11 (UInt8.ofNat (IntKind.wrap .u8 (b.length : Int)).toNat)).drop 12).drop (min b.length (128 - 12)))).take 124) (post_b := ((((setw (setw (List.replicate 128 (0 : UInt8)) 0 4 put_1) 8 10 put_2).set 10 kind).set 11 (UInt8.ofNat (IntKind.wrap .u8 (b.length : Int)).toNat)).take 12 ++ (b.take (128 - 12) ++ ((((setw (setw (List.replicate 128 (0 : UInt8)) 0 4 put_1) 8 10 put_2).set 10 kind).set 11 (UInt8.ofNat (IntKind.wrap .u8 (b.length : Int)).toNat)).drop 12).drop (min b.length (128 - 12)))).drop 128) ho57 hb58 hh59 (winG hg60 (by omega) (by omega)) r_generation hv56) (cons2 (rfl.trans wv61) (cons2 rfl rfl)) ?_)
 intro _ w62 o63 p64 hs65 f66; clear ho57 hb58 hh59 hg60 wv61
 replace f66 : Gs rU8 _ _ (ks [(some b1, o63)] O) _ _ (setw ((((setw (setw (List.replicate 128 (0 : UInt8)) 0 4 put_1) 8 10 put_2).set 10 kind).set 11 (UInt8.ofNat (IntKind.wrap .u8 (b.length : Int)).toNat)).take 12 ++ (b.take (128 - 12) ++ ((((setw (setw (List.replicate 128 (0 : UInt8)) 0 4 put_1) 8 10 put_2).set 10 kind).set 11 (UInt8.ofNat (IntKind.wrap .u8 (b.length : Int)).toNat)).drop 12).drop (min b.length (128 - 12)))) 124 128 put_3) _ _ := f66
 clear p64 hs51
 refine Rg_nil ?_
 refine Wp_seq ?_
 refine Wp_reset [] [(9, (Value.pointer (some ⟨b1, 0, none⟩)))] rfl ⟨rfl, trivial⟩ fun ξ67 => ?_
 refine Wp_drawR (g0 := []) (m := 4) (fl := []) (TS_inv hs65) rfl (.inl rfl) rfl (by decide +kernel) ?_  -- 7
 replace hm := ck_some hm; obtain ⟨hc71, hm⟩ := hm
 refine Dw_eq (Value.slice (some ⟨b1, if 128 = 4 then 0 else 0 + 4 * 1, none⟩) (8 - 4) (128 - 4)) (fun ρ68 w69 g hle hi ht => ?_) ?_
 ·
  obtain ⟨-, hst, -⟩ := hle
  refine StepOp_plain (op_sliceA (l := 4) (h := 8) (m := 128) ty105 ty5 (ht 9 rfl) (bndI rfl (by omega)) (bndI rfl (by omega)) rfl (by decide) (by omega) (by omega) (Nat.le_refl _) ?_)
  exact Goes.same hi rfl
 replace hm := ck_some hm; obtain ⟨hc75, hm⟩ := hm
 refine Dw_eq (Value.slice (some ⟨b1, if 128 = 8 then 0 else 0 + 8 * 1, none⟩) (124 - 8) (128 - 8)) (fun ρ72 w73 g hle hi ht => ?_) ?_
 ·
  obtain ⟨-, hst, -⟩ := hle
  refine StepOp_plain (op_sliceA (l := 8) (h := 124) (m := 128) ty105 ty5 (ht 9 rfl) (bndI rfl (by omega)) (bndI rfl (by omega)) rfl (by decide) (by omega) (by omega) (Nat.le_refl _) ?_)
  exact Goes.same hi rfl
 replace hm := bd hm; obtain ⟨sum_1, hv79, hm⟩ := hm
 refine Dw_op (VD O [(some b1, o63)] (vI .u32) sum_1) (VD.stab _ _) (fun ρ76 w77 g hle hi ht => ?_) ?_
 ·
  obtain ⟨-, hst, -⟩ := hle
  replace f66 := f66.step hst
  have hsn := (Step.nx hi).1
  obtain ⟨hs80, p81, f82⟩ := Gs.publish (i := 0) hsn rfl (f66.step (Step.nx hi).2)
  have f83 := SlR.win (l := 8) (h := 124) rfl f82 (by omega) (by omega)
  have ln85 : 124 - 8 = (((setw ((((setw (setw (List.replicate 128 (0 : UInt8)) 0 4 put_1) 8 10 put_2).set 10 kind).set 11 (UInt8.ofNat (IntKind.wrap .u8 (b.length : Int)).toNat)).take 12 ++ (b.take (128 - 12) ++ ((((setw (setw (List.replicate 128 (0 : UInt8)) 0 4 put_1) 8 10 put_2).set 10 kind).set 11 (UInt8.ofNat (IntKind.wrap .u8 (b.length : Int)).toNat)).drop 12).drop (min b.length (128 - 12)))) 124 128 put_3).drop 8).take (124 - 8)).length := by simp only [List.length_take, List.length_drop]; omega
  refine StepOp_plain (op_call Try.call72 (c72_journal_sum (b := (((setw ((((setw (setw (List.replicate 128 (0 : UInt8)) 0 4 put_1) 8 10 put_2).set 10 kind).set 11 (UInt8.ofNat (IntKind.wrap .u8 (b.length : Int)).toNat)).take 12 ++ (b.take (128 - 12) ++ ((((setw (setw (List.replicate 128 (0 : UInt8)) 0 4 put_1) 8 10 put_2).set 10 kind).set 11 (UInt8.ofNat (IntKind.wrap .u8 (b.length : Int)).toNat)).drop 12).drop (min b.length (128 - 12)))) 124 128 put_3).drop 8).take (124 - 8))) hs80.ltw f83 hv79) (cons2 (eqlen (ht 30 rfl) ln85) rfl) ?_)
  rintro v86 w87 ⟨hx88, h89⟩; exact Goes.call hi hx88 (show Vr.vd (vI .u32) _ _ _ _ from h89)
 refine Dw_eq (Value.int .u64 (IntKind.wrap .u64 sum_1)) (fun ρ90 w91 g hle hi ht => ?_) ?_
 ·
  obtain ⟨-, hst, -⟩ := hle
  have h93 : Vr.vd (vI .u32) _ _ _ _ := ht 31 rfl
  obtain ⟨q94, r_y95⟩ := h93
  refine StepOp_plain (op_conv Try.underlying107 Try.underlying93 q94 ?_)
  exact Goes.same hi rfl
 refine Dw_nil fun w100 g101 hl102 hi103 => ?_
 obtain ⟨-, hst104, -⟩ := hl102
 obtain ⟨hs106, p105⟩ := Step.nx hi103
 rintro _ rfl
 rintro v107 h108
 replace h108 : Vr.vd (vI .u32) _ _ _ _ := h108
 obtain ⟨rfl, r_y109⟩ := h108
 rintro _ rfl
 rintro _ rfl
 have p110 : Step (ks [(some b1, o63)] O) w62 (ks [(some b1, o63)] O) w100 := hst104.trans p105
 replace f66 := f66.step p110; clear p110 hs65
 replace hm := bd hm; obtain ⟨put_4, hv111, hm⟩ := hm
 obtain ⟨ho112, hb113, hh114, hg115⟩ := St.lendW (i := 0) hs106 rfl f66
 have wv116 := winval (bl := b1) (l := 4) (h := 8) (c := 128) (xs := (setw ((((setw (setw (List.replicate 128 (0 : UInt8)) 0 4 put_1) 8 10 put_2).set 10 kind).set 11 (UInt8.ofNat (IntKind.wrap .u8 (b.length : Int)).toNat)).take 12 ++ (b.take (128 - 12) ++ ((((setw (setw (List.replicate 128 (0 : UInt8)) 0 4 put_1) 8 10 put_2).set 10 kind).set 11 (UInt8.ofNat (IntKind.wrap .u8 (b.length : Int)).toNat)).drop 12).drop (min b.length (128 - 12)))) 124 128 put_3)) (by omega) (by omega) f66.le.1
 refine Rg_op rfl (op_callW (i := 0) Try.call71 hs106 rfl (c71_journal_put (b := (((setw ((((setw (setw (List.replicate 128 (0 : UInt8)) 0 4 put_1) 8 10 put_2).set 10 kind).set 11 (UInt8.ofNat (IntKind.wrap .u8 (b.length : Int)).toNat)).take 12 ++ (b.take (128 - 12) ++ ((((setw (setw (List.replicate 128 (0 : UInt8)) 0 4 put_1) 8 10 put_2).set 10 kind).set 11 (UInt8.ofNat (IntKind.wrap .u8 (b.length : Int)).toNat)).drop 12).drop (min b.length (128 - 12)))) 124 128 put_3).drop 4).take (8 - 4))) (n := (IntKind.wrap .u64 sum_1)) (pre_b := (setw ((((setw (setw (List.replicate 128 (0 : UInt8)) 0 4 put_1) 8 10 put_2).set 10 kind).set 11 (UInt8.ofNat (IntKind.wrap .u8 (b.length : Int)).toNat)).take 12 ++ (b.take (128 - 12) ++ ((((setw (setw (List.replicate 128 (0 : UInt8)) 0 4 put_1) 8 10 put_2).set 10 kind).set 11 (UInt8.ofNat (IntKind.wrap .u8 (b.length : Int)).toNat)).drop 12).drop (min b.length (128 - 12)))) 124 128 put_3).take 4) (post_b := (setw ((((setw (setw (List.replicate 128 (0 : UInt8)) 0 4 put_1) 8 10 put_2).set 10 kind).set 11 (UInt8.ofNat (IntKind.wrap .u8 (b.length : Int)).toNat)).take 12 ++ (b.take (128 - 12) ++ ((((setw (setw (List.replicate 128 (0 : UInt8)) 0 4 put_1) 8 10 put_2).set 10 kind).set 11 (UInt8.ofNat (IntKind.wrap .u8 (b.length : Int)).toNat)).drop 12).drop (min b.length (128 - 12)))) 124 128 put_3).drop 8) ho112 hb113 hh114 (winG hg115 (by omega) (by omega)) (inK_wrap .u64 _) hv111) (cons2 (rfl.trans wv116) (cons2 rfl rfl)) ?_)
 intro _ w117 o118 p119 hs120 f121; clear ho112 hb113 hh114 hg115 wv116
 replace f121 : Gs rU8 _ _ (ks [(some b1, o118)] O) _ _ (setw (setw ((((setw (setw (List.replicate 128 (0 : UInt8)) 0 4 put_1) 8 10 put_2).set 10 kind).set 11 (UInt8.ofNat (IntKind.wrap .u8 (b.length : Int)).toNat)).take 12 ++ (b.take (128 - 12) ++ ((((setw (setw (List.replicate 128 (0 : UInt8)) 0 4 put_1) 8 10 put_2).set 10 kind).set 11 (UInt8.ofNat (IntKind.wrap .u8 (b.length : Int)).toNat)).drop 12).drop (min b.length (128 - 12)))) 124 128 put_3) 4 8 put_4) _ _ := f121
 clear p119 hs106
 refine Rg_nil ?_
 refine Wp_seq ?_
 refine Wp_region ?_
 replace hm := ck_some hm; obtain ⟨hc122, hm⟩ := hm
 refine Rg_op rfl (op_sliceA (l := 0) (h := 128) (m := 128) ty105 ty5 rfl rfl rfl rfl (by decide) (by omega) (by omega) (Nat.le_refl _) ?_)
 refine Rg_op rfl (op_assign (v := (Value.slice (some ⟨b1, 0, none⟩) (setw (setw ((((setw (setw (List.replicate 128 (0 : UInt8)) 0 4 put_1) 8 10 put_2).set 10 kind).set 11 (UInt8.ofNat (IntKind.wrap .u8 (b.length : Int)).toNat)).take 12 ++ (b.take (128 - 12) ++ ((((setw (setw (List.replicate 128 (0 : UInt8)) 0 4 put_1) 8 10 put_2).set 10 kind).set 11 (UInt8.ofNat (IntKind.wrap .u8 (b.length : Int)).toNat)).drop 12).drop (min b.length (128 - 12)))) 124 128 put_3) 4 8 put_4).length 128)) (eqlen rfl (hc122).symm) ?_)
 refine Rg_nil ?_
 refine Wp_ret ?_
 obtain ⟨hs124, p125, f123⟩ := Gs.publish (i := 0) hs120 rfl f121
 clear p125 hs120
 have hz := step_all hs124
 replace f123 := f123.step hz
 refine ⟨_, (show Closes [] _ _ from rfl), [(Value.slice (some ⟨b1, 0, none⟩) (setw (setw ((((setw (setw (List.replicate 128 (0 : UInt8)) 0 4 put_1) 8 10 put_2).set 10 kind).set 11 (UInt8.ofNat (IntKind.wrap .u8 (b.length : Int)).toNat)).take 12 ++ (b.take (128 - 12) ++ ((((setw (setw (List.replicate 128 (0 : UInt8)) 0 4 put_1) 8 10 put_2).set 10 kind).set 11 (UInt8.ofNat (IntKind.wrap .u8 (b.length : Int)).toNat)).drop 12).drop (min b.length (128 - 12)))) 124 128 put_3) 4 8 put_4).length 128)], ⟨rfl, trivial⟩, hs124.ext, ?_⟩
 exact Vr.eq (a := (vC (rSl rU8))) (x := (setw (setw ((((setw (setw (List.replicate 128 (0 : UInt8)) 0 4 put_1) 8 10 put_2).set 10 kind).set 11 (UInt8.ofNat (IntKind.wrap .u8 (b.length : Int)).toNat)).take 12 ++ (b.take (128 - 12) ++ ((((setw (setw (List.replicate 128 (0 : UInt8)) 0 4 put_1) 8 10 put_2).set 10 kind).set 11 (UInt8.ofNat (IntKind.wrap .u8 (b.length : Int)).toNat)).drop 12).drop (min b.length (128 - 12)))) 124 128 put_3) 4 8 put_4)) (mkC (mk_sl f123)) (Option.some.inj hm)

end Go.Fx



set_option linter.unusedVariables false
set_option linter.unusedSimpArgs false
set_option maxRecDepth 100000
set_option maxHeartbeats 0
namespace Go.Fx
open Go Go.RowKit Go.Proofs
def m70_journal_good (s : List UInt8) (number : Int) : Option Bool :=
 ck ((0 : Int) ≤ 11 ∧ 11 < (s.length : Int)) <|
 jn (fun (v_1 : Bool) =>
  bif v_1 then
   some false
  else
   ck ((0 : Int) ≤ (4 : Int) ∧ (4 : Int) ≤ (s.length : Int)) <|
   (m60_journal_get ((s.drop 0).take (4 - 0))).bind fun get_1 =>
   bif (decide (0 < get_1)) then
    ck ((0 : Int) ≤ 10 ∧ 10 < (s.length : Int)) <|
    ck ((0 : Int) ≤ 12 ∧ (12 : Int) ≤ (IntKind.wrap .i64 (12 + ((s.getD 11 default).toNat : Int))) ∧ (IntKind.wrap .i64 (12 + ((s.getD 11 default).toNat : Int))) ≤ (s.length : Int)) <|
    (m63_journal_encode get_1 number (s.getD 10 default) ((s.drop 12).take ((IntKind.wrap .i64 (12 + ((s.getD 11 default).toNat : Int))).toNat - 12))).bind fun encode_1 =>
    (m62_bytes_Equal s encode_1).bind fun equal_1 =>
    some equal_1
   else
    some false)
 (fun k9 =>
  bif (decide (112 < ((s.getD 11 default).toNat : Int))) then
   k9 true
  else
   ck ((0 : Int) ≤ 10 ∧ 10 < (s.length : Int)) <|
   bif (decide (3 < ((s.getD 10 default).toNat : Int))) then
    k9 true
   else
    ck ((0 : Int) ≤ 10 ∧ 10 < (s.length : Int)) <|
    bif (decide (((UInt8.ofNat (Go.bits .and .u8 ((s.getD 10 default).toNat : Int) 2).toNat).toNat : Int) = 0)) then
     bif (decide (((s.getD 11 default).toNat : Int) < 112)) then
      k9 true
     else
      ck ((0 : Int) ≤ 10 ∧ 10 < (s.length : Int)) <|
      bif (decide (((UInt8.ofNat (Go.bits .and .u8 ((s.getD 10 default).toNat : Int) 1).toNat).toNat : Int) = 0)) then
       k9 (decide (((s.getD 11 default).toNat : Int) = 0))
      else
       k9 false
    else
     ck ((0 : Int) ≤ 10 ∧ 10 < (s.length : Int)) <|
     bif (decide (((UInt8.ofNat (Go.bits .and .u8 ((s.getD 10 default).toNat : Int) 1).toNat).toNat : Int) = 0)) then
      k9 (decide (((s.getD 11 default).toNat : Int) = 0))
     else
      k9 false)

theorem c70_journal_good {w : World} {O : List Nat} {s : List UInt8} {number : Int} {a_s : Option Addr} {c_s : Nat} (hO : ∀ k ∈ O, k < w.heap.size) (f_s : SlR rU8 w O a_s c_s s) (r_number : InK .i64 number) {x : Bool} (hm : m70_journal_good s number = some x) :
  Ok Try.prog 70 [(Value.slice a_s s.length c_s), (Value.int .i64 number)] w O vB x := by
 unfold m70_journal_good at hm
 refine Fn_of_Wp (n := 60) (xs := [.tmp 4]) Try.func70 rfl Try.ntmps70 Try.results70 rfl ?_
 have hs := St.start hO
 refine Wp_seq ?_
 refine Wp_region ?_
 refine Rg_op rfl (op_assign (v := (Value.bool false)) rfl ?_)
 refine Rg_nil ?_
 refine Wp_seq ?_
 refine Wp_region ?_
 refine Rg_op rfl (op_move (v := (Value.slice a_s s.length c_s)) rfl ?_)
 replace hm := ck_some hm; obtain ⟨hc1, hm⟩ := hm
 refine Rg_op rfl (op_indexAddr (q := rU8) ty41 ty5 rfl rfl f_s rfl hc1.1 hc1.2 ?_)
 intro p2 f3
 replace f3 : PtR rU8 _ _ p2 (s.getD 11 default) := f3
 refine Rg_op rfl (op_loadP ty5 rfl f3 rfl ?_)
 intro v4 h5
 obtain rfl := un_u8 h5
 refine Rg_op rfl (op_conv_u8 Try.underlying5 Try.underlying3 rfl (by decide) ?_)
 refine Rg_op rfl (op_assign (v := (Value.int .i64 ((s.getD 11 default).toNat : Int))) rfl ?_)
 refine Rg_nil ?_
 refine Wp_seq ?_
 refine Wp_reset [] [(0, (Value.slice a_s s.length c_s)), (1, (Value.int .i64 number)), (5, (Value.int .i64 ((s.getD 11 default).toNat : Int)))] rfl ⟨rfl, rfl, rfl, trivial⟩ fun ξ7 => ?_
 replace hm := jn_elim hm; obtain ⟨k9, hk10, hm⟩ := hm
 refine Wp_seqJ [11, 12, 13, 14, 15, 16, 17, 18, 19, 20, 21, 22, 23, 24, 25, 26, 27, 28, 29, 30, 31, 32, 33, 34, 35, 36, 37, 38, 39, 40] (fun fr w' => ∃ (v_1 : Bool) (Ebs : Ents), Ebs = [] ∧ fr [] [(40, (Value.bool v_1))] ∧ Step (ks [] O) w (ks Ebs O) w' ∧ St ⟨w, [], []⟩ O w' Ebs ∧ k9 v_1 = some x) ?_ ?_
 ·
  rintro ρ16 w12 ⟨v_1, Ebs, hEbs, hfr15, hst14, hs13, hm⟩
  replace hm := jnE1 hk10 hm
  subst hEbs; rw [hfr15.eq]; clear hfr15
  replace f_s := f_s.step hst14; replace f3 := f3.step hst14; clear hst14
  refine Wp_cond rfl (fun hc17 => ?_) (fun hc17 => ?_)
  ·
   replace hm := bif_t hm hc17
   refine Wp_seq ?_
   clear f_s f3
   refine Wp_region ?_
   refine Rg_op rfl (op_assign (v := (Value.bool false)) rfl ?_)
   refine Rg_nil ?_
   refine Wp_ret ?_
   have hz := step_all hs13
   refine ⟨_, (show Closes [] _ _ from rfl), [(Value.bool false)], ⟨rfl, trivial⟩, hs13.ext, ?_⟩
   exact Vr.eq (a := vB) (x := false) rfl (Option.some.inj hm)
  ·
   replace hm := bif_f hm hc17
   refine Wp_skip ?_
   refine Wp_seq ?_
   clear f3
   refine Wp_region ?_
   refine Rg_op rfl (op_move (v := (Value.slice a_s s.length c_s)) rfl ?_)
   replace hm := ck_some hm; obtain ⟨hc18, hm⟩ := hm
   refine Rg_op rfl (op_slice (q := rU8) (l := 0) (h := 4) (m := c_s) ty41 ty5 rfl f_s rfl rfl (bndI rfl (by omega)) rfl (by decide) (by omega) (by omega) (by have h_ : s.length ≤ c_s := f_s.le; omega) (by have h_ : s.length ≤ c_s := f_s.le; omega) ?_)
   intro a19 f20
   replace hm := bd hm; obtain ⟨get_1, hv21, hm⟩ := hm
   refine Rg_op rfl (op_call Try.call60 (c60_journal_get (b := ((s.drop 0).take (4 - 0))) hs13.ltw f20 hv21) rfl ?_)
   rintro v22 w23 ⟨hx24, h25⟩
   have hs26 := hs13.call hx24
   have p27 := Step.ext (O := ks [] O) hx24
   clear hx24
   replace f_s := f_s.step p27; replace f20 := f20.step p27; clear p27 hs13
   obtain ⟨rfl, r_y28⟩ := h25
   refine Rg_op rfl (op_assign (v := (Value.int .u64 get_1)) rfl ?_)
   refine Rg_nil ?_
   refine Wp_seq ?_
   clear f20
   refine Wp_drawR (g0 := []) (m := 14) (fl := []) (TS_inv hs26) rfl (.inl rfl) rfl (by decide +kernel) ?_  -- 5
   refine Dw_eq (Value.int .u64 get_1) (fun ρ29 w30 g hle hi ht => ?_) ?_
   ·
    obtain ⟨-, hst, -⟩ := hle
    refine StepOp_plain (op_move (v := (Value.int .u64 get_1)) (ht 6 rfl) ?_)
    exact Goes.same hi rfl
   refine Dw_eq (Value.bool (decide (0 < get_1))) (fun ρ32 w33 g hle hi ht => ?_) ?_
   ·
    obtain ⟨-, hst, -⟩ := hle
    refine StepOp_plain (op_gtr (ht 44 rfl) rfl ?_)
    exact Goes.same hi rfl
   refine Dw_opB (decide (0 < get_1)) (fun ρ35 w36 g hle hi ht => ?_) (fun hg38 => ?_) (fun hg38 => ?_)
   ·
    obtain ⟨-, hst, -⟩ := hle
    refine StepOp_plain (op_move (v := (Value.bool (decide (0 < get_1)))) (ht 45 rfl) ?_)
    exact Goes.same hi rfl
   ·
    replace hm := bif_t hm hg38
    refine Dw_eq (Value.slice a_s s.length c_s) (fun ρ39 w40 g hle hi ht => ?_) ?_
    ·
     obtain ⟨-, hst, -⟩ := hle
     refine StepOp_g rfl (ht 46 rfl) (op_move (v := (Value.slice a_s s.length c_s)) (ht 0 rfl) ?_)
     exact Goes.same hi rfl
    refine Dw_eq (Value.int .u64 get_1) (fun ρ42 w43 g hle hi ht => ?_) ?_
    ·
     obtain ⟨-, hst, -⟩ := hle
     refine StepOp_g rfl (ht 46 rfl) (op_move (v := (Value.int .u64 get_1)) (ht 6 rfl) ?_)
     exact Goes.same hi rfl
    refine Dw_eq (Value.int .i64 number) (fun ρ45 w46 g hle hi ht => ?_) ?_
    ·
     obtain ⟨-, hst, -⟩ := hle
     refine StepOp_g rfl (ht 46 rfl) (op_move (v := (Value.int .i64 number)) (ht 1 rfl) ?_)
     exact Goes.same hi rfl
    refine Dw_eq (Value.slice a_s s.length c_s) (fun ρ48 w49 g hle hi ht => ?_) ?_
    ·
     obtain ⟨-, hst, -⟩ := hle
     refine StepOp_g rfl (ht 46 rfl) (op_move (v := (Value.slice a_s s.length c_s)) (ht 0 rfl) ?_)
     exact Goes.same hi rfl
    replace hm := ck_some hm; obtain ⟨hc54, hm⟩ := hm
    refine Dw_op (VP O [] rU8 (s.getD 10 default)) (VP.stab _ _) (fun ρ51 w52 g hle hi ht => ?_) ?_
    ·
     obtain ⟨-, hst, -⟩ := hle
     replace f_s := f_s.step hst
     refine StepOp_g rfl (ht 46 rfl) (op_indexAddr (q := rU8) ty41 ty5 (ht 50 rfl) rfl f_s rfl hc54.1 hc54.2 ?_)
     intro p55 f56
     replace f56 : PtR rU8 _ _ p55 (s.getD 10 default) := f56
     exact Goes.same hi ⟨_, rfl, f56⟩
    refine Dw_eq (Value.int .u8 ((s.getD 10 default).toNat : Int)) (fun ρ57 w58 g hle hi ht => ?_) ?_
    ·
     obtain ⟨-, hst, -⟩ := hle
     obtain ⟨p60, q61, f62⟩ := ht 51 rfl
     refine StepOp_g rfl (ht 46 rfl) (op_loadP ty5 q61 f62 rfl ?_)
     intro v63 h64
     obtain rfl := un_u8 h64
     exact Goes.same hi rfl
    refine Dw_eq (Value.slice a_s s.length c_s) (fun ρ66 w67 g hle hi ht => ?_) ?_
    ·
     obtain ⟨-, hst, -⟩ := hle
     refine StepOp_g rfl (ht 46 rfl) (op_move (v := (Value.slice a_s s.length c_s)) (ht 0 rfl) ?_)
     exact Goes.same hi rfl
    refine Dw_eq (Value.int .i64 ((s.getD 11 default).toNat : Int)) (fun ρ69 w70 g hle hi ht => ?_) ?_
    ·
     obtain ⟨-, hst, -⟩ := hle
     refine StepOp_g rfl (ht 46 rfl) (op_move (v := (Value.int .i64 ((s.getD 11 default).toNat : Int))) (ht 5 rfl) ?_)
     exact Goes.same hi rfl
    refine Dw_eq (Value.int .i64 (IntKind.wrap .i64 (12 + ((s.getD 11 default).toNat : Int)))) (fun ρ72 w73 g hle hi ht => ?_) ?_
    ·
     obtain ⟨-, hst, -⟩ := hle
     refine StepOp_g rfl (ht 46 rfl) (op_addw rfl (ht 54 rfl) ?_)
     exact Goes.same hi rfl
    replace hm := ck_some hm; obtain ⟨hc78, hm⟩ := hm
    refine Dw_op (VD O [] (vC (rSl rU8)) ((s.drop 12).take ((IntKind.wrap .i64 (12 + ((s.getD 11 default).toNat : Int))).toNat - 12))) (VD.stab _ _) (fun ρ75 w76 g hle hi ht => ?_) ?_
    ·
     obtain ⟨-, hst, -⟩ := hle
     replace f_s := f_s.step hst
     refine StepOp_g rfl (ht 46 rfl) (op_slice (q := rU8) (l := 12) (h := (IntKind.wrap .i64 (12 + ((s.getD 11 default).toNat : Int))).toNat) (m := c_s) ty41 ty5 (ht 53 rfl) f_s rfl (bndI rfl (by omega)) (bndI (ht 55 rfl) (by omega)) rfl (by decide) (by omega) (by omega) (by have h_ : s.length ≤ c_s := f_s.le; omega) (by have h_ : s.length ≤ c_s := f_s.le; omega) ?_)
     intro a79 f80
     exact Goes.same hi (show Vr.vd (vC (rSl rU8)) _ _ _ _ from (mkC (mk_sl f80)))
    replace hm := bd hm; obtain ⟨encode_1, hv87, hm⟩ := hm
    refine Dw_op (VD O [] (vC (rSl rU8)) encode_1) (VD.stab _ _) (fun ρ81 w82 g hle hi ht => ?_) ?_
    ·
     obtain ⟨-, hst, -⟩ := hle
     have h84 : Vr.vd (vC (rSl rU8)) _ _ _ _ := ht 56 rfl
     obtain ⟨a_y86, c_y86, q85, f_y86⟩ := un_sl h84
     refine StepOp_g rfl (ht 46 rfl) (op_call Try.call63 (c63_journal_encode (O := ks (ents g ++ []) O) (generation := get_1) (number := number) (kind := (s.getD 10 default)) (b := ((s.drop 12).take ((IntKind.wrap .i64 (12 + ((s.getD 11 default).toNat : Int))).toNat - 12))) hi.ltw r_y28 r_number f_y86 hv87) (by simp only [List.map, Array.toList, (show ev _ (.tmp 48) = _ from (ht 48 rfl)), (show ev _ (.tmp 49) = _ from (ht 49 rfl)), (show ev _ (.tmp 52) = _ from (ht 52 rfl)), (show ev _ (.tmp 56) = _ from q85)] <;> rfl) ?_)
     rintro v88 w89 ⟨hx90, h91⟩
     exact Goes.call hi hx90 h91
    refine Dw_nil fun w97 g98 hl99 hi100 => ?_
    obtain ⟨-, hst101, -⟩ := hl99
    obtain ⟨hs103, p102⟩ := Step.nx hi100
    rintro v104 h105
    replace h105 : Vr.vd (vC (rSl rU8)) _ _ _ _ := h105
    obtain ⟨a_y106, c_y106, rfl, f_y106⟩ := un_sl h105
    rintro v107 h108
    replace h108 : Vr.vd (vC (rSl rU8)) _ _ _ _ := h108
    obtain ⟨a_y109, c_y109, rfl, f_y109⟩ := un_sl h108
    rintro _ rfl
    rintro _ rfl
    rintro _ rfl
    rintro _ rfl
    rintro _ ⟨p110, rfl, f111⟩
    rintro _ rfl
    rintro _ rfl
    rintro _ rfl
    rintro _ rfl
    rintro _ rfl
    rintro _ rfl
    rintro _ rfl
    have p112 : Step (ks [] O) w23 (ks [] O) w97 := hst101.trans p102
    replace f_y106 := f_y106.step p102; replace f_y109 := f_y109.step p102; replace f111 := f111.step p102; replace f_s := f_s.step p112; clear p112 hs26
    replace hm := bd hm; obtain ⟨equal_1, hv113, hm⟩ := hm
    refine Rg_opg rfl rfl rfl (op_call Try.call62 (c62_bytes_Equal (a := s) (b := encode_1) hs103.ltw f_s f_y106 hv113) rfl ?_)
    rintro v114 w115 ⟨hx116, h117⟩
    have hs118 := hs103.call hx116
    have p119 := Step.ext (O := ks [] O) hx116
    clear hx116
    replace f_s := f_s.step p119; replace f_y106 := f_y106.step p119; replace f_y109 := f_y109.step p119; replace f111 := f111.step p119; clear p119 hs103
    obtain rfl := h117
    refine Rg_op rfl (op_pick_t (v := (Value.bool equal_1)) rfl rfl ?_)
    refine Rg_op rfl (op_assign (v := (Value.bool equal_1)) rfl ?_)
    refine Rg_nil ?_
    refine Wp_ret ?_
    have hz := step_all hs118
    replace f_s := f_s.step hz; replace f_y106 := f_y106.step hz; replace f_y109 := f_y109.step hz; replace f111 := f111.step hz
    refine ⟨_, (show Closes [] _ _ from rfl), [(Value.bool equal_1)], ⟨rfl, trivial⟩, hs118.ext, ?_⟩
    exact Vr.eq (a := vB) (x := equal_1) rfl (Option.some.inj hm)
   ·
    replace hm := bif_f hm hg38
    refine Dw_skip (fun _ _ _ ht => wanted_x rfl (ht 46 rfl) rfl) ?_
    refine Dw_skip (fun _ _ _ ht => wanted_x rfl (ht 46 rfl) rfl) ?_
    refine Dw_skip (fun _ _ _ ht => wanted_x rfl (ht 46 rfl) rfl) ?_
    refine Dw_skip (fun _ _ _ ht => wanted_x rfl (ht 46 rfl) rfl) ?_
    refine Dw_skip (fun _ _ _ ht => wanted_x rfl (ht 46 rfl) rfl) ?_
    refine Dw_skip (fun _ _ _ ht => wanted_x rfl (ht 46 rfl) rfl) ?_
    refine Dw_skip (fun _ _ _ ht => wanted_x rfl (ht 46 rfl) rfl) ?_
    refine Dw_skip (fun _ _ _ ht => wanted_x rfl (ht 46 rfl) rfl) ?_
    refine Dw_skip (fun _ _ _ ht => wanted_x rfl (ht 46 rfl) rfl) ?_
    refine Dw_skip (fun _ _ _ ht => wanted_x rfl (ht 46 rfl) rfl) ?_
    refine Dw_skip (fun _ _ _ ht => wanted_x rfl (ht 46 rfl) rfl) ?_
    refine Dw_nil fun w125 g126 hl127 hi128 => ?_
    obtain ⟨-, hst129, -⟩ := hl127
    obtain ⟨hs131, p130⟩ := Step.nx hi128
    rintro _ rfl
    rintro _ rfl
    rintro _ rfl
    rintro _ rfl
    rintro _ rfl
    rintro _ rfl
    rintro _ rfl
    rintro _ rfl
    rintro _ rfl
    rintro _ rfl
    rintro _ rfl
    rintro _ rfl
    rintro _ rfl
    rintro _ rfl
    have p132 : Step (ks [] O) w23 (ks [] O) w125 := hst129.trans p130
    replace f_s := f_s.step p132; clear p132 hs26
    refine Rg_opx rfl (asB_ne rfl rfl) rfl ?_
    refine Rg_op rfl (op_pick_f (v := (Value.bool false)) rfl rfl ?_)
    refine Rg_op rfl (op_assign (v := (Value.bool false)) rfl ?_)
    refine Rg_nil ?_
    refine Wp_ret ?_
    have hz := step_all hs131
    replace f_s := f_s.step hz
    refine ⟨_, (show Closes [] _ _ from rfl), [(Value.bool false)], ⟨rfl, trivial⟩, hs131.ext, ?_⟩
    exact Vr.eq (a := vB) (x := false) rfl (Option.some.inj hm)
 ·
  intro K11 hK11
  have ch133 := Step.refl (ks [] O) w
  clear f3
  refine Wp_region ?_
  refine Rg_op rfl (op_move (v := (Value.int .i64 ((s.getD 11 default).toNat : Int))) rfl ?_)
  refine Rg_op rfl (op_gtr rfl rfl ?_)
  refine Rg_op rfl (op_move (v := (Value.bool (decide (112 < ((s.getD 11 default).toNat : Int))))) rfl ?_)
  refine Rg_case (fun hg134 => ?_) (fun hg134 => ?_)
  ·
   replace hm := bif_t hm hg134
   iterate 4 refine Rg_opx rfl (asB_ne rfl rfl) rfl ?_
   refine Rg_op rfl (op_pick_t (v := (Value.bool true)) rfl rfl ?_)
   refine Rg_op rfl (op_move (v := (Value.bool true)) rfl ?_)
   iterate 9 refine Rg_opx rfl (asB_ne rfl rfl) rfl ?_
   refine Rg_op rfl (op_pick_t (v := (Value.bool true)) rfl rfl ?_)
   refine Rg_op rfl (op_move (v := (Value.bool true)) rfl ?_)
   iterate 9 refine Rg_opx rfl (asB_ne rfl rfl) rfl ?_
   refine Rg_op rfl (op_pick_t (v := (Value.bool true)) rfl rfl ?_)
   refine Rg_nil ?_
   exact hK11 _ _ ⟨true, _, rfl, ⟨(by repeat (first | with_reducible exact Out.refl _ _ | refine Out.upd ?_ rfl | refine Out.updL ?_ rfl | refine Out.mix' ?_ rfl | exact Out.refl _ _)), rfl, rfl, trivial⟩, ch133, hs, hm⟩
  ·
   replace hm := bif_f hm hg134
   refine Rg_opg rfl rfl rfl (op_move (v := (Value.slice a_s s.length c_s)) rfl ?_)
   replace hm := ck_some hm; obtain ⟨hc135, hm⟩ := hm
   refine Rg_opg rfl rfl rfl (op_indexAddr (q := rU8) ty41 ty5 rfl rfl f_s rfl hc135.1 hc135.2 ?_)
   intro p136 f137
   replace f137 : PtR rU8 _ _ p136 (s.getD 10 default) := f137
   refine Rg_opg rfl rfl rfl (op_loadP ty5 rfl f137 rfl ?_)
   intro v138 h139
   obtain rfl := un_u8 h139
   refine Rg_opg rfl rfl rfl (op_gtr rfl rfl ?_)
   refine Rg_op rfl (op_pick_f (v := (Value.bool (decide (3 < ((s.getD 10 default).toNat : Int))))) rfl rfl ?_)
   refine Rg_op rfl (op_move (v := (Value.bool (decide (3 < ((s.getD 10 default).toNat : Int))))) rfl ?_)
   refine Rg_case (fun hg141 => ?_) (fun hg141 => ?_)
   ·
    replace hm := bif_t hm hg141
    iterate 9 refine Rg_opx rfl (asB_ne rfl rfl) rfl ?_
    refine Rg_op rfl (op_pick_t (v := (Value.bool true)) rfl rfl ?_)
    refine Rg_op rfl (op_move (v := (Value.bool true)) rfl ?_)
    iterate 9 refine Rg_opx rfl (asB_ne rfl rfl) rfl ?_
    refine Rg_op rfl (op_pick_t (v := (Value.bool true)) rfl rfl ?_)
    refine Rg_nil ?_
    exact hK11 _ _ ⟨true, _, rfl, ⟨(by repeat (first | with_reducible exact Out.refl _ _ | refine Out.upd ?_ rfl | refine Out.updL ?_ rfl | refine Out.mix' ?_ rfl | exact Out.refl _ _)), rfl, rfl, trivial⟩, ch133, hs, hm⟩
   ·
    replace hm := bif_f hm hg141
    refine Rg_opg rfl rfl rfl (op_move (v := (Value.slice a_s s.length c_s)) rfl ?_)
    replace hm := ck_some hm; obtain ⟨hc142, hm⟩ := hm
    refine Rg_opg rfl rfl rfl (op_indexAddr (q := rU8) ty41 ty5 rfl rfl f_s rfl hc142.1 hc142.2 ?_)
    intro p143 f144
    replace f144 : PtR rU8 _ _ p143 (s.getD 10 default) := f144
    refine Rg_opg rfl rfl rfl (op_loadP ty5 rfl f144 rfl ?_)
    intro v145 h146
    obtain rfl := un_u8 h146
    refine Rg_opg rfl rfl rfl (run1_u8 (e := (Go.bits .and .u8 ((s.getD 10 default).toNat : Int) 2)) (inK_bits .and .u8 _ _) (fun _ hk => op_and rfl rfl hk) ?_)
    refine Rg_opg rfl rfl rfl (op_eql rfl rfl ?_)
    refine Rg_opg rfl rfl rfl (op_move (v := (Value.bool (decide (((UInt8.ofNat (Go.bits .and .u8 ((s.getD 10 default).toNat : Int) 2).toNat).toNat : Int) = 0)))) rfl ?_)
    refine Rg_case (fun hg148 => ?_) (fun hg148 => ?_)
    ·
     replace hm := bif_t hm hg148
     refine Rg_opg rfl rfl rfl (op_move (v := (Value.int .i64 ((s.getD 11 default).toNat : Int))) rfl ?_)
     refine Rg_opg rfl rfl rfl (op_lss rfl rfl ?_)
     refine Rg_opg rfl rfl rfl (op_pick_t (v := (Value.bool (decide (((s.getD 11 default).toNat : Int) < 112)))) rfl rfl ?_)
     refine Rg_op rfl (op_pick_f (v := (Value.bool (decide (((s.getD 11 default).toNat : Int) < 112)))) rfl rfl ?_)
     refine Rg_op rfl (op_move (v := (Value.bool (decide (((s.getD 11 default).toNat : Int) < 112)))) rfl ?_)
     refine Rg_case (fun hg149 => ?_) (fun hg149 => ?_)
     ·
      replace hm := bif_t hm hg149
      iterate 9 refine Rg_opx rfl (asB_ne rfl rfl) rfl ?_
      refine Rg_op rfl (op_pick_t (v := (Value.bool true)) rfl rfl ?_)
      refine Rg_nil ?_
      exact hK11 _ _ ⟨true, _, rfl, ⟨(by repeat (first | with_reducible exact Out.refl _ _ | refine Out.upd ?_ rfl | refine Out.updL ?_ rfl | refine Out.mix' ?_ rfl | exact Out.refl _ _)), rfl, rfl, trivial⟩, ch133, hs, hm⟩
     ·
      replace hm := bif_f hm hg149
      refine Rg_opg rfl rfl rfl (op_move (v := (Value.slice a_s s.length c_s)) rfl ?_)
      replace hm := ck_some hm; obtain ⟨hc150, hm⟩ := hm
      refine Rg_opg rfl rfl rfl (op_indexAddr (q := rU8) ty41 ty5 rfl rfl f_s rfl hc150.1 hc150.2 ?_)
      intro p151 f152
      replace f152 : PtR rU8 _ _ p151 (s.getD 10 default) := f152
      refine Rg_opg rfl rfl rfl (op_loadP ty5 rfl f152 rfl ?_)
      intro v153 h154
      obtain rfl := un_u8 h154
      refine Rg_opg rfl rfl rfl (run1_u8 (e := (Go.bits .and .u8 ((s.getD 10 default).toNat : Int) 1)) (inK_bits .and .u8 _ _) (fun _ hk => op_and rfl rfl hk) ?_)
      refine Rg_opg rfl rfl rfl (op_eql rfl rfl ?_)
      refine Rg_opg rfl rfl rfl (op_move (v := (Value.bool (decide (((UInt8.ofNat (Go.bits .and .u8 ((s.getD 10 default).toNat : Int) 1).toNat).toNat : Int) = 0)))) rfl ?_)
      refine Rg_case (fun hg156 => ?_) (fun hg156 => ?_)
      ·
       replace hm := bif_t hm hg156
       refine Rg_opg rfl rfl rfl (op_move (v := (Value.int .i64 ((s.getD 11 default).toNat : Int))) rfl ?_)
       refine Rg_opg rfl rfl rfl (op_eql rfl rfl ?_)
       refine Rg_opg rfl rfl rfl (op_pick_t (v := (Value.bool (decide (((s.getD 11 default).toNat : Int) = 0)))) rfl rfl ?_)
       refine Rg_op rfl (op_pick_f (v := (Value.bool (decide (((s.getD 11 default).toNat : Int) = 0)))) rfl rfl ?_)
       refine Rg_nil ?_
       exact hK11 _ _ ⟨(decide (((s.getD 11 default).toNat : Int) = 0)), _, rfl, ⟨(by repeat (first | with_reducible exact Out.refl _ _ | refine Out.upd ?_ rfl | refine Out.updL ?_ rfl | refine Out.mix' ?_ rfl | exact Out.refl _ _)), rfl, rfl, trivial⟩, ch133, hs, hm⟩
      ·
       replace hm := bif_f hm hg156
       iterate 2 refine Rg_opx rfl (asB_ne rfl rfl) rfl ?_
       refine Rg_opg rfl rfl rfl (op_pick_f (v := (Value.bool false)) rfl rfl ?_)
       refine Rg_op rfl (op_pick_f (v := (Value.bool false)) rfl rfl ?_)
       refine Rg_nil ?_
       exact hK11 _ _ ⟨false, _, rfl, ⟨(by repeat (first | with_reducible exact Out.refl _ _ | refine Out.upd ?_ rfl | refine Out.updL ?_ rfl | refine Out.mix' ?_ rfl | exact Out.refl _ _)), rfl, rfl, trivial⟩, ch133, hs, hm⟩
    ·
     replace hm := bif_f hm hg148
     iterate 2 refine Rg_opx rfl (asB_ne rfl rfl) rfl ?_
     refine Rg_opg rfl rfl rfl (op_pick_f (v := (Value.bool false)) rfl rfl ?_)
     refine Rg_op rfl (op_pick_f (v := (Value.bool false)) rfl rfl ?_)
     refine Rg_op rfl (op_move (v := (Value.bool false)) rfl ?_)
     refine Rg_opg rfl rfl rfl (op_move (v := (Value.slice a_s s.length c_s)) rfl ?_)
     replace hm := ck_some hm; obtain ⟨hc157, hm⟩ := hm
     refine Rg_opg rfl rfl rfl (op_indexAddr (q := rU8) ty41 ty5 rfl rfl f_s rfl hc157.1 hc157.2 ?_)
     intro p158 f159
     replace f159 : PtR rU8 _ _ p158 (s.getD 10 default) := f159
     refine Rg_opg rfl rfl rfl (op_loadP ty5 rfl f159 rfl ?_)
     intro v160 h161
     obtain rfl := un_u8 h161
     refine Rg_opg rfl rfl rfl (run1_u8 (e := (Go.bits .and .u8 ((s.getD 10 default).toNat : Int) 1)) (inK_bits .and .u8 _ _) (fun _ hk => op_and rfl rfl hk) ?_)
     refine Rg_opg rfl rfl rfl (op_eql rfl rfl ?_)
     refine Rg_opg rfl rfl rfl (op_move (v := (Value.bool (decide (((UInt8.ofNat (Go.bits .and .u8 ((s.getD 10 default).toNat : Int) 1).toNat).toNat : Int) = 0)))) rfl ?_)
     refine Rg_case (fun hg163 => ?_) (fun hg163 => ?_)
     ·
      replace hm := bif_t hm hg163
      refine Rg_opg rfl rfl rfl (op_move (v := (Value.int .i64 ((s.getD 11 default).toNat : Int))) rfl ?_)
      refine Rg_opg rfl rfl rfl (op_eql rfl rfl ?_)
      refine Rg_opg rfl rfl rfl (op_pick_t (v := (Value.bool (decide (((s.getD 11 default).toNat : Int) = 0)))) rfl rfl ?_)
      refine Rg_op rfl (op_pick_f (v := (Value.bool (decide (((s.getD 11 default).toNat : Int) = 0)))) rfl rfl ?_)
      refine Rg_nil ?_
      exact hK11 _ _ ⟨(decide (((s.getD 11 default).toNat : Int) = 0)), _, rfl, ⟨(by repeat (first | with_reducible exact Out.refl _ _ | refine Out.upd ?_ rfl | refine Out.updL ?_ rfl | refine Out.mix' ?_ rfl | exact Out.refl _ _)), rfl, rfl, trivial⟩, ch133, hs, hm⟩
     ·
      replace hm := bif_f hm hg163
      iterate 2 refine Rg_opx rfl (asB_ne rfl rfl) rfl ?_
      refine Rg_opg rfl rfl rfl (op_pick_f (v := (Value.bool false)) rfl rfl ?_)
      refine Rg_op rfl (op_pick_f (v := (Value.bool false)) rfl rfl ?_)
      refine Rg_nil ?_
      exact hK11 _ _ ⟨false, _, rfl, ⟨(by repeat (first | with_reducible exact Out.refl _ _ | refine Out.upd ?_ rfl | refine Out.updL ?_ rfl | refine Out.mix' ?_ rfl | exact Out.refl _ _)), rfl, rfl, trivial⟩, ch133, hs, hm⟩

end Go.Fx



set_option linter.unusedVariables false
set_option linter.unusedSimpArgs false
set_option maxRecDepth 100000
set_option maxHeartbeats 0
namespace Go.Fx
open Go Go.RowKit Go.Proofs
def m69_journal_records_1_B1 (fv0_ : List (List UInt8)) (sf11 : Int → Int → Option (List (Int × (List UInt8)))) (sf34 : Int → Int → (List UInt8) → Int → Option (List (Int × (List UInt8)))) (at_2 : Int) (last_2 : Int) (b_1 : List UInt8) (n_1 : Int) : Option (List (Int × (List UInt8))) :=
 bif (decide (n_1 < (fv0_.length : Int))) then
  ck ((0 : Int) ≤ n_1 ∧ n_1 < (fv0_.length : Int)) <|
  jn (fun (v_1 : Bool) =>
   bif v_1 then
    some ([] : List (Int × (List UInt8)))
   else
    ck ((0 : Int) ≤ 11 ∧ 11 < ((fv0_.getD n_1.toNat default).length : Int)) <|
    ck ((0 : Int) ≤ 12 ∧ (12 : Int) ≤ (IntKind.wrap .i64 (12 + (((fv0_.getD n_1.toNat default).getD 11 default).toNat : Int))) ∧ (IntKind.wrap .i64 (12 + (((fv0_.getD n_1.toNat default).getD 11 default).toNat : Int))) ≤ ((fv0_.getD n_1.toNat default).length : Int)) <|
    ck ((b_1.length + (((fv0_.getD n_1.toNat default).drop 12).take ((IntKind.wrap .i64 (12 + (((fv0_.getD n_1.toNat default).getD 11 default).toNat : Int))).toNat - 12)).length) * 1 ≤ 140737488355328) <|
    ck ((0 : Int) ≤ 10 ∧ 10 < ((fv0_.getD n_1.toNat default).length : Int)) <|
    bif (decide (((UInt8.ofNat (Go.bits .and .u8 (((fv0_.getD n_1.toNat default).getD 10 default).toNat : Int) 2).toNat).toNat : Int) ≠ 0)) then
     ck ((0 : Int) ≤ (4 : Int) ∧ (4 : Int) ≤ ((fv0_.getD n_1.toNat default).length : Int)) <|
     (m60_journal_get (((fv0_.getD n_1.toNat default).drop 0).take (4 - 0))).bind fun get_1 =>
     yl ((IntKind.wrap .i64 (n_1 + 1)), (b_1 ++ (((fv0_.getD n_1.toNat default).drop 12).take ((IntKind.wrap .i64 (12 + (((fv0_.getD n_1.toNat default).getD 11 default).toNat : Int))).toNat - 12)))) (
     sf11 (IntKind.wrap .i64 (n_1 + 1)) get_1)
    else
     sf34 at_2 last_2 (b_1 ++ (((fv0_.getD n_1.toNat default).drop 12).take ((IntKind.wrap .i64 (12 + (((fv0_.getD n_1.toNat default).getD 11 default).toNat : Int))).toNat - 12))) (IntKind.wrap .i64 (n_1 + 1)))
  (fun k69 =>
   (m70_journal_good (fv0_.getD n_1.toNat default) n_1).bind fun good_1 =>
   bif (!good_1) then
    k69 true
   else
    ck ((0 : Int) ≤ 10 ∧ 10 < ((fv0_.getD n_1.toNat default).length : Int)) <|
    bif (!((decide (((UInt8.ofNat (Go.bits .and .u8 (((fv0_.getD n_1.toNat default).getD 10 default).toNat : Int) 1).toNat).toNat : Int) ≠ 0)) == (decide (n_1 = at_2)))) then
     k69 true
    else
     ck ((0 : Int) ≤ (4 : Int) ∧ (4 : Int) ≤ ((fv0_.getD n_1.toNat default).length : Int)) <|
     (m60_journal_get (((fv0_.getD n_1.toNat default).drop 0).take (4 - 0))).bind fun get_2 =>
     ck ((0 : Int) ≤ at_2 ∧ at_2 < (fv0_.length : Int)) <|
     ck ((0 : Int) ≤ (4 : Int) ∧ (4 : Int) ≤ ((fv0_.getD at_2.toNat default).length : Int)) <|
     (m60_journal_get (((fv0_.getD at_2.toNat default).drop 0).take (4 - 0))).bind fun get_3 =>
     bif (decide (get_2 ≠ get_3)) then
      k69 true
     else
      ck ((0 : Int) ≤ (4 : Int) ∧ (4 : Int) ≤ ((fv0_.getD n_1.toNat default).length : Int)) <|
      (m60_journal_get (((fv0_.getD n_1.toNat default).drop 0).take (4 - 0))).bind fun get_4 =>
      k69 (decide (get_4 < last_2)))
 else
  some ([] : List (Int × (List UInt8)))

def m69_journal_records_1_B0 (fv0_ : List (List UInt8)) (sf11 : Int → Int → Option (List (Int × (List UInt8)))) (at_1 : Int) (last_1 : Int) : Option (List (Int × (List UInt8))) :=
 loop4 (m69_journal_records_1_B1 fv0_ sf11) (((fv0_.length : Int) - at_1).toNat + 1) at_1 last_1 ([] : List UInt8) at_1

def m69_journal_records_1 (fv0_ : List (List UInt8)) : Option (List (Int × (List UInt8))) :=
 loop2 (m69_journal_records_1_B0 fv0_) (1000000) 0 0

theorem c69_journal_records_1 {w : World} {O : List Nat} {fv0_ : List (List UInt8)} {p_fv0_ : Addr} (hO : ∀ k ∈ O, k < w.heap.size) (f_fv0_ : PtR (rSl (rSl rU8)) w O p_fv0_ fv0_) {L : List (Int × (List UInt8))} (hm : m69_journal_records_1 fv0_ = some L) :
  IterF Try.prog w O 69 [(Value.pointer (some p_fv0_))] (enc2 (vI .i64) (vC (rSl rU8))) L := by
 unfold m69_journal_records_1 at hm
 obtain ⟨x, hm, hL⟩ : ∃ x, _ = some x ∧ L = [] ++ x := ⟨L, hm, rfl⟩
 intro w1 O1 hst0 hO1 l J Jx hJ hJx hY h0
 replace f_fv0_ := f_fv0_.step hst0
 refine Fn_of_Wp (n := 77) (xs := []) Try.func69 rfl Try.ntmps69 Try.results69 rfl ?_
 have hs := St.start hO1
 have hI := Itr.start h0
 refine Wp_scope ?_
 refine Wp_seq ?_
 refine Wp_region ?_
 refine Rg_op rfl (op_assign (v := (Value.int .i64 0)) rfl ?_)
 refine Rg_op rfl (op_assign (v := (Value.int .u64 0)) rfl ?_)
 refine Rg_nil ?_
 refine Wp_seq ?_
 refine Wp_label ?_
 refine Wp_block ?_
 refine Wp_reset [] [(0, (Value.func (.yield l) #[] #[])), (1, (Value.pointer (some p_fv0_))), (3, (Value.int .i64 0)), (4, (Value.int .u64 0))] rfl ⟨rfl, rfl, rfl, rfl, trivial⟩ fun ξ10 => ?_
 refine Wp_loopM [3, 4, 5, 6, 7, 8, 9, 10, 11, 12, 13, 14, 15, 16, 17, 18, 19, 20, 21, 22, 23, 24, 25, 26, 27, 28, 29, 30, 31, 32, 33, 34, 35, 36, 37, 38, 39, 40, 41, 42, 43, 44, 45, 46, 47, 48, 49, 50, 51, 52, 53, 54, 55, 56, 57, 58, 59, 60, 61, 62, 63, 64, 65, 66, 67, 68, 69, 70, 71, 72, 73, 74, 75, 76] (fun m fr w' => ∃ (at_1 : Int) (last_1 : Int) (xr3 pre4 : List (Int × (List UInt8))) (wz5 : World) (Kz6 Oz7 : List Nat) (Ebs : Ents), Ebs = [] ∧ fr [] [(3, (Value.int .i64 at_1)), (4, (Value.int .u64 last_1))] ∧ Step (ks [] O1) w1 (ks Ebs Oz7) w' ∧ St ⟨wz5, Kz6, []⟩ Oz7 w' Ebs ∧ InK .i64 at_1 ∧ InK .u64 last_1 ∧ Itr J pre4 ⟨wz5, Kz6, []⟩ Oz7 ∧ L = pre4 ++ xr3 ∧ loop2 (m69_journal_records_1_B0 fv0_) m at_1 last_1 = some xr3) (1000000) ⟨0, 0, x, ([] : List _), w1, [], O1, _, rfl, ⟨Out.refl _ _, rfl, rfl, rfl, trivial⟩, Step.refl _ _, hs, (show InK .i64 0 from by decide), (show InK .u64 0 from by decide), hI, hL, hm⟩ ?_ ?_
 · rintro _ _ ⟨_, _, _, _, _, _, _, _, _, _, _, _, _, _, _, _, hm⟩; exact loop2_z hm
 ·
  rintro m14 K13 hK13 ρ19 w15 ⟨at_1, last_1, xr3, pre4, wz5, Kz6, Oz7, Ebs, hEbs, hfr18, hst17, hs16, r_y1, r_y2, hI8, hL9, hm⟩
  obtain ⟨sf11, hsf12, hm⟩ := loop2_s hm; unfold m69_journal_records_1_B0 at hm
  subst hEbs; rw [hfr18.eq]; clear hfr18
  replace f_fv0_ := f_fv0_.step hst17
  have ch20 := hst17
  refine Wp_block ?_
  refine Wp_seq ?_
  refine Wp_region ?_
  refine Rg_op rfl (op_assign (v := (Value.slice none 0 0)) rfl ?_)
  refine Rg_nil ?_
  refine Wp_seq ?_
  refine Wp_seq ?_
  refine Wp_region ?_
  refine Rg_op rfl (op_move (v := (Value.int .i64 at_1)) rfl ?_)
  refine Rg_op rfl (op_assign (v := (Value.int .i64 at_1)) rfl ?_)
  refine Rg_nil ?_
  refine Wp_block ?_
  refine Wp_reset2 [3, 4, 5, 6, 7, 8, 9, 10, 11, 12, 13, 14, 15, 16, 17, 18, 19, 20, 21, 22, 23, 24, 25, 26, 27, 28, 29, 30, 31, 32, 33, 34, 35, 36, 37, 38, 39, 40, 41, 42, 43, 44, 45, 46, 47, 48, 49, 50, 51, 52, 53, 54, 55, 56, 57, 58, 59, 60, 61, 62, 63, 64, 65, 66, 67, 68, 69, 70, 71, 72, 73, 74, 75, 76] [] (updL ⟨ξ10, []⟩ [(0, (Value.func (.yield l) #[] #[])), (1, (Value.pointer (some p_fv0_))), (3, (Value.int .i64 0)), (4, (Value.int .u64 0))]) [(3, (Value.int .i64 at_1)), (4, (Value.int .u64 last_1)), (5, (Value.slice none 0 0)), (6, (Value.int .i64 at_1))] (by repeat (first | with_reducible exact Out.refl _ _ | refine Out.upd ?_ rfl | refine Out.updL ?_ rfl | refine Out.mix' ?_ rfl | exact Out.refl _ _)) rfl ⟨rfl, rfl, rfl, rfl, trivial⟩ fun ξ33 => ?_
  have hs38 := hs16.ghost (Obj.cells #[] 5)
  refine Wp_loopM [3, 4, 5, 6, 7, 9, 10, 11, 12, 13, 14, 15, 16, 17, 18, 19, 20, 21, 22, 23, 24, 25, 26, 27, 28, 29, 30, 31, 32, 33, 34, 35, 36, 37, 38, 39, 40, 41, 42, 43, 44, 45, 46, 47, 48, 49, 50, 51, 52, 53, 54, 55, 56, 57, 58, 59, 60, 61, 62, 63, 64, 65, 66, 67, 68, 69, 70, 71, 72, 73, 74, 75, 76] (fun m fr w' => ∃ (at_2 : Int) (last_2 : Int) (b_1 : List UInt8) (n_1 : Int) (a_g24 : Option Addr) (c_g24 : Nat) (k_g24 : Option Nat) (o_g24 : Obj) (xr26 pre27 : List (Int × (List UInt8))) (wz28 : World) (Kz29 Oz30 : List Nat) (Ebs : Ents), Ebs = [(k_g24, o_g24)] ∧ fr [] [(3, (Value.int .i64 at_2)), (4, (Value.int .u64 last_2)), (5, (Value.slice a_g24 b_1.length c_g24)), (6, (Value.int .i64 n_1))] ∧ Step (ks [(none, (Obj.cells #[] 5))] Oz7) w15 (ks Ebs Oz30) w' ∧ St ⟨wz28, Kz29, []⟩ Oz30 w' Ebs ∧ InK .i64 at_2 ∧ InK .u64 last_2 ∧ Gs rU8 5 w' (ks Ebs Oz30) a_g24 c_g24 b_1 k_g24 o_g24 ∧ InK .i64 n_1 ∧ Itr J pre27 ⟨wz28, Kz29, []⟩ Oz30 ∧ L = pre27 ++ xr26 ∧ loop4 (m69_journal_records_1_B1 fv0_ sf11) m at_2 last_2 b_1 n_1 = some xr26) (((fv0_.length : Int) - at_1).toNat + 1) ⟨at_1, last_1, ([] : List UInt8), at_1, none, 0, none, (Obj.cells #[] 5), xr3, pre4, wz5, Kz6, Oz7, _, rfl, ⟨Out.refl _ _, rfl, rfl, rfl, rfl, rfl, trivial⟩, Step.refl _ _, hs38, r_y1, r_y2, Gs.nil_, r_y1, hI8, hL9, hm⟩ ?_ ?_
  · rintro _ _ ⟨_, _, _, _, _, _, _, _, _, _, _, _, _, _, _, _, _, _, _, _, _, _, _, _, hm⟩; exact loop4_z hm
  ·
   rintro m37 K36 hK36 ρ44 w40 ⟨at_2, last_2, b_1, n_1, a_g24, c_g24, k_g24, o_g24, xr26, pre27, wz28, Kz29, Oz30, Ebs, hEbs, hfr43, hst42, hs41, r_y21, r_y22, f_g24, r_y25, hI31, hL32, hm⟩
   obtain ⟨sf34, hsf35, hm⟩ := loop4_s hm; unfold m69_journal_records_1_B1 at hm
   subst hEbs; rw [hfr43.eq]; clear hfr43
   replace f_fv0_ := f_fv0_.step hst42; replace ch20 := ch20.trans hst42
   have ch45 := hst42
   refine Wp_seq ?_
   refine Wp_seq ?_
   refine Wp_region ?_
   refine Rg_op rfl (op_move (v := (Value.int .i64 n_1)) rfl ?_)
   refine Rg_op rfl (op_loadP ty22 rfl f_fv0_ rfl ?_)
   intro v46 h47
   obtain ⟨a_y48, c_y48, rfl, f_y48⟩ := un_sl h47
   refine Rg_op rfl (op_len Try.underlying22 rfl ?_)
   have rl49 := inK_len f_y48
   refine Rg_op rfl (op_lss rfl rfl ?_)
   refine Rg_nil ?_
   refine Wp_cond rfl (fun hc50 => ?_) (fun hc50 => ?_)
   ·
    replace hm := bif_t hm hc50
    refine Wp_skip ?_
    refine Wp_seq ?_
    refine Wp_block ?_
    refine Wp_seq ?_
    clear f_y48
    refine Wp_region ?_
    refine Rg_op rfl (op_loadP ty22 rfl f_fv0_ rfl ?_)
    intro v51 h52
    obtain ⟨a_y53, c_y53, rfl, f_y53⟩ := un_sl h52
    refine Rg_op rfl (op_move (v := (Value.int .i64 n_1)) rfl ?_)
    replace hm := ck_some hm; obtain ⟨hc54, hm⟩ := hm
    refine Rg_op rfl (op_indexAddr (q := (rSl rU8)) ty22 ty41 rfl rfl f_y53 rfl hc54.1 hc54.2 ?_)
    intro p55 f56
    refine Rg_op rfl (op_loadP ty41 rfl f56 rfl ?_)
    intro v57 h58
    obtain ⟨a_y59, c_y59, rfl, f_y59⟩ := un_sl h58
    refine Rg_op rfl (op_assign (v := (Value.slice a_y59 (fv0_.getD n_1.toNat default).length c_y59)) rfl ?_)
    refine Rg_nil ?_
    refine Wp_seq ?_
    refine Wp_reset2 [3, 4, 5, 6, 7, 9, 10, 11, 12, 13, 14, 15, 16, 17, 18, 19, 20, 21, 22, 23, 24, 25, 26, 27, 28, 29, 30, 31, 32, 33, 34, 35, 36, 37, 38, 39, 40, 41, 42, 43, 44, 45, 46, 47, 48, 49, 50, 51, 52, 53, 54, 55, 56, 57, 58, 59, 60, 61, 62, 63, 64, 65, 66, 67, 68, 69, 70, 71, 72, 73, 74, 75, 76] [] (updL (mix [3, 4, 5, 6, 7, 8, 9, 10, 11, 12, 13, 14, 15, 16, 17, 18, 19, 20, 21, 22, 23, 24, 25, 26, 27, 28, 29, 30, 31, 32, 33, 34, 35, 36, 37, 38, 39, 40, 41, 42, 43, 44, 45, 46, 47, 48, 49, 50, 51, 52, 53, 54, 55, 56, 57, 58, 59, 60, 61, 62, 63, 64, 65, 66, 67, 68, 69, 70, 71, 72, 73, 74, 75, 76] [] ξ33 (updL ⟨ξ10, []⟩ [(0, (Value.func (.yield l) #[] #[])), (1, (Value.pointer (some p_fv0_))), (3, (Value.int .i64 0)), (4, (Value.int .u64 0))])) [(3, (Value.int .i64 at_1)), (4, (Value.int .u64 last_1)), (5, (Value.slice none 0 0)), (6, (Value.int .i64 at_1))]) [(3, (Value.int .i64 at_2)), (4, (Value.int .u64 last_2)), (5, (Value.slice a_g24 b_1.length c_g24)), (6, (Value.int .i64 n_1)), (7, (Value.slice a_y59 (fv0_.getD n_1.toNat default).length c_y59))] (by repeat (first | with_reducible exact Out.refl _ _ | refine Out.upd ?_ rfl | refine Out.updL ?_ rfl | refine Out.mix' ?_ rfl | exact Out.refl _ _)) rfl ⟨rfl, rfl, rfl, rfl, rfl, trivial⟩ fun ξ60 => ?_
    replace hm := jn_elim hm; obtain ⟨k69, hk70, hm⟩ := hm
    refine Wp_seqJ [19, 20, 21, 22, 23, 24, 25, 26, 27, 28, 29, 30, 31, 32, 33, 34, 35, 36, 37, 38, 39, 40, 41, 42, 43, 44, 45, 46, 47, 48, 49, 50, 51, 52] (fun fr w' => ∃ (v_1 : Bool) (xr62 pre63 : List (Int × (List UInt8))) (wz64 : World) (Kz65 Oz66 : List Nat) (Ebs : Ents), Ebs = [(k_g24, o_g24)] ∧ fr [] [(52, (Value.bool v_1))] ∧ Step (ks [(k_g24, o_g24)] Oz30) w40 (ks Ebs Oz66) w' ∧ St ⟨wz64, Kz65, []⟩ Oz66 w' Ebs ∧ Itr J pre63 ⟨wz64, Kz65, []⟩ Oz66 ∧ L = pre63 ++ xr62 ∧ k69 v_1 = some xr62) ?_ ?_
    ·
     rintro ρ76 w72 ⟨v_1, xr62, pre63, wz64, Kz65, Oz66, Ebs, hEbs, hfr75, hst74, hs73, hI67, hL68, hm⟩
     replace hm := jnE1 hk70 hm
     subst hEbs; rw [hfr75.eq]; clear hfr75
     replace f_fv0_ := f_fv0_.step hst74; replace f_g24 := f_g24.step hst74; replace f_y53 := f_y53.step hst74; replace f56 := f56.step hst74; replace f_y59 := f_y59.step hst74; replace ch20 := ch20.trans hst74; replace ch45 := ch45.trans hst74; clear hst74 hs41
     refine Wp_cond rfl (fun hc77 => ?_) (fun hc77 => ?_)
     ·
      replace hm := bif_t hm hc77
      refine Wp_ret ?_
      have h78 := hI67.fin hJ hs73
      rw [← Option.some.inj hm, List.append_nil] at hL68; rw [← hL68] at h78
      exact ⟨_, (show Closes [] _ _ from rfl), [], trivial, _, .inl h78⟩
     ·
      replace hm := bif_f hm hc77
      refine Wp_skip ?_
      refine Wp_seq ?_
      clear f_y53 f56
      refine Wp_region ?_
      refine Rg_op rfl (op_move (v := (Value.slice a_g24 b_1.length c_g24)) rfl ?_)
      refine Rg_op rfl (op_move (v := (Value.slice a_y59 (fv0_.getD n_1.toNat default).length c_y59)) rfl ?_)
      refine Rg_op rfl (op_move (v := (Value.slice a_y59 (fv0_.getD n_1.toNat default).length c_y59)) rfl ?_)
      replace hm := ck_some hm; obtain ⟨hc79, hm⟩ := hm
      refine Rg_op rfl (op_indexAddr (q := rU8) ty41 ty5 rfl rfl f_y59 rfl hc79.1 hc79.2 ?_)
      intro p80 f81
      replace f81 : PtR rU8 _ _ p80 ((fv0_.getD n_1.toNat default).getD 11 default) := f81
      refine Rg_op rfl (op_loadP ty5 rfl f81 rfl ?_)
      intro v82 h83
      obtain rfl := un_u8 h83
      refine Rg_op rfl (op_conv_u8 Try.underlying5 Try.underlying3 rfl (by decide) ?_)
      refine Rg_op rfl (op_addw rfl rfl ?_)
      replace hm := ck_some hm; obtain ⟨hc85, hm⟩ := hm
      refine Rg_op rfl (op_slice (q := rU8) (l := 12) (h := (IntKind.wrap .i64 (12 + (((fv0_.getD n_1.toNat default).getD 11 default).toNat : Int))).toNat) (m := c_y59) ty41 ty5 rfl f_y59 rfl (bndI rfl (by omega)) (bndI rfl (by omega)) rfl (by decide) (by omega) (by omega) (by have h_ : (fv0_.getD n_1.toNat default).length ≤ c_y59 := f_y59.le; omega) (by have h_ : (fv0_.getD n_1.toNat default).length ≤ c_y59 := f_y59.le; omega) ?_)
      intro a86 f87
      replace hm := ck_some hm; obtain ⟨hc88, hm⟩ := hm
      obtain ⟨ns89, he90, hr91⟩ := f87.src
      refine Rg_op rfl (op_append (q := rU8) (i := 0) (xs := b_1) (ys := (((fv0_.getD n_1.toNat default).drop 12).take ((IntKind.wrap .i64 (12 + (((fv0_.getD n_1.toNat default).getD 11 default).toNat : Int))).toNat - 12))) (news := ns89) ty41 ty5 rfl (by decide) hs73 rfl rfl f_g24 rfl hr91 he90 hc88 (by have := hc88; simp only [maxLen]; omega) ?_)
      intro a95 c96 k97 o98 w92 p93 hs94 f99
      replace f_fv0_ := f_fv0_.step p93; replace f_y59 := f_y59.step p93; replace f81 := f81.step p93; replace f87 := f87.step p93; replace ch20 := ch20.trans p93; replace ch45 := ch45.trans p93; clear p93 hs73
      refine Rg_op rfl (op_assign (v := (Value.slice a95 (b_1 ++ (((fv0_.getD n_1.toNat default).drop 12).take ((IntKind.wrap .i64 (12 + (((fv0_.getD n_1.toNat default).getD 11 default).toNat : Int))).toNat - 12))).length c96)) rfl ?_)
      refine Rg_nil ?_
      refine Wp_seq ?_
      clear f81 f87
      refine Wp_region ?_
      refine Rg_op rfl (op_move (v := (Value.slice a_y59 (fv0_.getD n_1.toNat default).length c_y59)) rfl ?_)
      replace hm := ck_some hm; obtain ⟨hc100, hm⟩ := hm
      refine Rg_op rfl (op_indexAddr (q := rU8) ty41 ty5 rfl rfl f_y59 rfl hc100.1 hc100.2 ?_)
      intro p101 f102
      replace f102 : PtR rU8 _ _ p101 ((fv0_.getD n_1.toNat default).getD 10 default) := f102
      refine Rg_op rfl (op_loadP ty5 rfl f102 rfl ?_)
      intro v103 h104
      obtain rfl := un_u8 h104
      refine Rg_op rfl (run1_u8 (e := (Go.bits .and .u8 (((fv0_.getD n_1.toNat default).getD 10 default).toNat : Int) 2)) (inK_bits .and .u8 _ _) (fun _ hk => op_and rfl rfl hk) ?_)
      refine Rg_op rfl (op_neq rfl rfl ?_)
      refine Rg_nil ?_
      refine Wp_cond rfl (fun hc106 => ?_) (fun hc106 => ?_)
      ·
       replace hm := bif_t hm hc106
       refine Wp_seq ?_
       clear f102
       refine Wp_region ?_
       refine Rg_op rfl (op_move (v := (Value.int .i64 n_1)) rfl ?_)
       refine Rg_op rfl (op_addw rfl rfl ?_)
       refine Rg_op rfl (op_move (v := (Value.slice a_y59 (fv0_.getD n_1.toNat default).length c_y59)) rfl ?_)
       replace hm := ck_some hm; obtain ⟨hc107, hm⟩ := hm
       refine Rg_op rfl (op_slice (q := rU8) (l := 0) (h := 4) (m := c_y59) ty41 ty5 rfl f_y59 rfl rfl (bndI rfl (by omega)) rfl (by decide) (by omega) (by omega) (by have h_ : (fv0_.getD n_1.toNat default).length ≤ c_y59 := f_y59.le; omega) (by have h_ : (fv0_.getD n_1.toNat default).length ≤ c_y59 := f_y59.le; omega) ?_)
       intro a108 f109
       replace hm := bd hm; obtain ⟨get_1, hv110, hm⟩ := hm
       refine Rg_op rfl (op_call Try.call60 (c60_journal_get (b := (((fv0_.getD n_1.toNat default).drop 0).take (4 - 0))) hs94.ltw f109 hv110) rfl ?_)
       rintro v111 w112 ⟨hx113, h114⟩
       have hs115 := hs94.call hx113
       have p116 := Step.ext (O := ks [(k97, o98)] Oz66) hx113
       clear hx113
       replace f_fv0_ := f_fv0_.step p116; replace f_y59 := f_y59.step p116; replace f99 := f99.step p116; replace f109 := f109.step p116; replace ch20 := ch20.trans p116; replace ch45 := ch45.trans p116; clear p116 hs94
       obtain ⟨rfl, r_y117⟩ := h114
       refine Rg_op rfl (op_assign (v := (Value.int .i64 (IntKind.wrap .i64 (n_1 + 1)))) rfl ?_)
       refine Rg_op rfl (op_assign (v := (Value.int .u64 get_1)) rfl ?_)
       refine Rg_nil ?_
       refine Wp_seq ?_
       refine Wp_seq ?_
       clear f_y59 f109
       refine Wp_reset2 [3, 4, 5, 6, 7, 9, 10, 11, 12, 13, 14, 15, 16, 17, 18, 19, 20, 21, 22, 23, 24, 25, 26, 27, 28, 29, 30, 31, 32, 33, 34, 35, 36, 37, 38, 39, 40, 41, 42, 43, 44, 45, 46, 47, 48, 49, 50, 51, 52, 53, 54, 55, 56, 57, 58, 59, 60, 61, 62, 63, 64, 65, 66, 67, 68, 69, 70, 71, 72, 73, 74, 75, 76] [] (updL (mix [3, 4, 5, 6, 7, 8, 9, 10, 11, 12, 13, 14, 15, 16, 17, 18, 19, 20, 21, 22, 23, 24, 25, 26, 27, 28, 29, 30, 31, 32, 33, 34, 35, 36, 37, 38, 39, 40, 41, 42, 43, 44, 45, 46, 47, 48, 49, 50, 51, 52, 53, 54, 55, 56, 57, 58, 59, 60, 61, 62, 63, 64, 65, 66, 67, 68, 69, 70, 71, 72, 73, 74, 75, 76] [] ξ33 (updL ⟨ξ10, []⟩ [(0, (Value.func (.yield l) #[] #[])), (1, (Value.pointer (some p_fv0_))), (3, (Value.int .i64 0)), (4, (Value.int .u64 0))])) [(3, (Value.int .i64 at_1)), (4, (Value.int .u64 last_1)), (5, (Value.slice none 0 0)), (6, (Value.int .i64 at_1))]) [(3, (Value.int .i64 (IntKind.wrap .i64 (n_1 + 1)))), (4, (Value.int .u64 get_1)), (5, (Value.slice a95 (b_1 ++ (((fv0_.getD n_1.toNat default).drop 12).take ((IntKind.wrap .i64 (12 + (((fv0_.getD n_1.toNat default).getD 11 default).toNat : Int))).toNat - 12))).length c96))] (by repeat (first | with_reducible exact Out.refl _ _ | refine Out.upd ?_ rfl | refine Out.updL ?_ rfl | refine Out.mix' ?_ rfl | exact Out.refl _ _)) rfl ⟨rfl, rfl, rfl, trivial⟩ fun ξ118 => ?_
       refine Wp_region ?_
       refine Rg_op rfl (op_move (v := (Value.func (.yield l) #[] #[])) rfl ?_)
       refine Rg_op rfl (op_move (v := (Value.int .i64 (IntKind.wrap .i64 (n_1 + 1)))) rfl ?_)
       refine Rg_op rfl (op_move (v := (Value.slice a95 (b_1 ++ (((fv0_.getD n_1.toNat default).drop 12).take ((IntKind.wrap .i64 (12 + (((fv0_.getD n_1.toNat default).getD 11 default).toNat : Int))).toNat - 12))).length c96)) rfl ?_)
       obtain ⟨hs120, p121, f119⟩ := Gs.publish (i := 0) hs115 rfl f99
       replace f_fv0_ := f_fv0_.step p121; replace ch20 := ch20.trans p121; replace ch45 := ch45.trans p121; clear p121 hs115
       replace hm := yl_elim hm; obtain ⟨xr122, hm, hL123⟩ := hm
       rw [hL123] at hL68
       refine Rg_op rfl (op_yield (pre := pre63) (a := ((IntKind.wrap .i64 (n_1 + 1)), (b_1 ++ (((fv0_.getD n_1.toNat default).drop 12).take ((IntKind.wrap .i64 (12 + (((fv0_.getD n_1.toNat default).getD 11 default).toNat : Int))).toNat - 12))))) rfl rfl hY hJ hI67 hs120 ⟨xr122, by rw [hL68]; simp⟩ (show (enc2 (vI .i64) (vC (rSl rU8))) _ _ _ _ from ⟨_, _, rfl, ⟨rfl, (inK_wrap .i64 _)⟩, (mkC (mk_sl f119))⟩) ?_ ?_)
       ·
        intro w124 O125 hs126 p127 hI128
        replace f_fv0_ := f_fv0_.step p127; replace f119 := f119.step p127; replace ch20 := ch20.trans p127; replace ch45 := ch45.trans p127; clear p127 hs120
        have hL129 : L = (pre63 ++ [((IntKind.wrap .i64 (n_1 + 1)), (b_1 ++ (((fv0_.getD n_1.toNat default).drop 12).take ((IntKind.wrap .i64 (12 + (((fv0_.getD n_1.toNat default).getD 11 default).toNat : Int))).toNat - 12))))]) ++ xr122 := by rw [hL68]; simp
        refine Rg_op rfl (op_not rfl ?_)
        refine Rg_nil ?_
        refine Wp_cond_f rfl ?_
        refine Wp_skip ?_
        refine Wp_exit ?_
        exact hK13 _ _ ⟨(IntKind.wrap .i64 (n_1 + 1)), get_1, xr122, (pre63 ++ [((IntKind.wrap .i64 (n_1 + 1)), (b_1 ++ (((fv0_.getD n_1.toNat default).drop 12).take ((IntKind.wrap .i64 (12 + (((fv0_.getD n_1.toNat default).getD 11 default).toNat : Int))).toNat - 12))))]), w124, (List.filterMap Prod.fst []), O125, _, rfl, ⟨(by repeat (first | with_reducible exact Out.refl _ _ | refine Out.upd ?_ rfl | refine Out.updL ?_ rfl | refine Out.mix' ?_ rfl | exact Out.refl _ _)), rfl, rfl, rfl, trivial⟩, ch20, hs126, (inK_wrap .i64 _), r_y117, hI128, hL129, jnE2 hsf12 hm⟩
       ·
        intro w130 O131 hs132 hI134
        refine Rg_op rfl (op_not rfl ?_)
        refine Rg_nil ?_
        refine Wp_cond_t rfl ?_
        refine Wp_ret ?_
        exact ⟨_, (show Closes [] _ _ from rfl), [], trivial, _, .inr ⟨_, hI134.fin hJx hs132⟩⟩
      ·
       replace hm := bif_f hm hc106
       refine Wp_skip ?_
       clear f_y59 f102
       refine Wp_region ?_
       refine Rg_op rfl (op_move (v := (Value.int .i64 n_1)) rfl ?_)
       refine Rg_op rfl (op_addw rfl rfl ?_)
       refine Rg_op rfl (op_assign (v := (Value.int .i64 (IntKind.wrap .i64 (n_1 + 1)))) rfl ?_)
       refine Rg_nil ?_
       exact hK36 _ _ ⟨at_2, last_2, (b_1 ++ (((fv0_.getD n_1.toNat default).drop 12).take ((IntKind.wrap .i64 (12 + (((fv0_.getD n_1.toNat default).getD 11 default).toNat : Int))).toNat - 12))), (IntKind.wrap .i64 (n_1 + 1)), a95, c96, k97, o98, xr62, pre63, wz64, Kz65, Oz66, _, rfl, ⟨(by repeat (first | with_reducible exact Out.refl _ _ | refine Out.upd ?_ rfl | refine Out.updL ?_ rfl | refine Out.mix' ?_ rfl | exact Out.refl _ _)), rfl, rfl, rfl, rfl, rfl, trivial⟩, ch45, hs94, r_y21, r_y22, f99, (inK_wrap .i64 _), hI67, hL68, jnE4 hsf35 hm⟩
    ·
     intro K71 hK71
     have ch135 := Step.refl (ks [(k_g24, o_g24)] Oz30) w40
     clear f_y53 f56
     refine Wp_drawR (g0 := []) (m := 32) (fl := []) (TS_inv hs41) rfl (.inl rfl) rfl (by decide +kernel) ?_  -- 6
     refine Dw_eq (Value.slice a_y59 (fv0_.getD n_1.toNat default).length c_y59) (fun ρ136 w137 g hle hi ht => ?_) ?_
     ·
      obtain ⟨-, hst, -⟩ := hle
      refine StepOp_plain (op_move (v := (Value.slice a_y59 (fv0_.getD n_1.toNat default).length c_y59)) (ht 7 rfl) ?_)
      exact Goes.same hi rfl
     refine Dw_eq (Value.int .i64 n_1) (fun ρ139 w140 g hle hi ht => ?_) ?_
     ·
      obtain ⟨-, hst, -⟩ := hle
      refine StepOp_plain (op_move (v := (Value.int .i64 n_1)) (ht 6 rfl) ?_)
      exact Goes.same hi rfl
     replace hm := bd hm; obtain ⟨good_1, hv145, hm⟩ := hm
     refine Dw_op (VD Oz30 [(k_g24, o_g24)] vB good_1) (VD.stab _ _) (fun ρ142 w143 g hle hi ht => ?_) ?_
     ·
      obtain ⟨-, hst, -⟩ := hle
      replace f_y59 := f_y59.step hst
      refine StepOp_plain (op_call Try.call70 (c70_journal_good (O := ks (ents g ++ [(k_g24, o_g24)]) Oz30) (s := (fv0_.getD n_1.toNat default)) (number := n_1) hi.ltw f_y59 r_y25 hv145) (by simp only [List.map, Array.toList, (show ev _ (.tmp 19) = _ from (ht 19 rfl)), (show ev _ (.tmp 20) = _ from (ht 20 rfl))] <;> rfl) ?_)
      rintro v146 w147 ⟨hx148, h149⟩
      exact Goes.call hi hx148 h149
     refine Dw_eq (Value.bool (!good_1)) (fun ρ151 w152 g hle hi ht => ?_) ?_
     ·
      obtain ⟨-, hst, -⟩ := hle
      have h154 : Vr.vd vB _ _ _ _ := ht 21 rfl
      have q155 : _ = (Value.bool good_1) := h154
      refine StepOp_plain (op_not q155 ?_)
      exact Goes.same hi rfl
     refine Dw_opB (!good_1) (fun ρ157 w158 g hle hi ht => ?_) (fun hg160 => ?_) (fun hg160 => ?_)
     ·
      obtain ⟨-, hst, -⟩ := hle
      refine StepOp_plain (op_move (v := (Value.bool (!good_1))) (ht 22 rfl) ?_)
      exact Goes.same hi rfl
     ·
      replace hm := bif_t hm hg160
      refine Dw_skip (fun _ _ _ ht => wanted_x rfl (ht 23 rfl) rfl) ?_
      refine Dw_skip (fun _ _ _ ht => wanted_x rfl (ht 23 rfl) rfl) ?_
      refine Dw_skip (fun _ _ _ ht => wanted_x rfl (ht 23 rfl) rfl) ?_
      refine Dw_skip (fun _ _ _ ht => wanted_x rfl (ht 23 rfl) rfl) ?_
      refine Dw_skip (fun _ _ _ ht => wanted_x rfl (ht 23 rfl) rfl) ?_
      refine Dw_skip (fun _ _ _ ht => wanted_x rfl (ht 23 rfl) rfl) ?_
      refine Dw_skip (fun _ _ _ ht => wanted_x rfl (ht 23 rfl) rfl) ?_
      refine Dw_skip (fun _ _ _ ht => wanted_x rfl (ht 23 rfl) rfl) ?_
      refine Dw_skip (fun _ _ _ ht => wanted_x rfl (ht 23 rfl) rfl) ?_
      refine Dw_eq (Value.bool true) (fun ρ161 w162 g hle hi ht => ?_) ?_
      ·
       obtain ⟨-, hst, -⟩ := hle
       refine StepOp_plain (op_pick_t (v := (Value.bool true)) (ht 23 rfl) rfl ?_)
       exact Goes.same hi rfl
      refine Dw_eq (Value.bool true) (fun ρ164 w165 g hle hi ht => ?_) ?_
      ·
       obtain ⟨-, hst, -⟩ := hle
       refine StepOp_plain (op_move (v := (Value.bool true)) (ht 33 rfl) ?_)
       exact Goes.same hi rfl
      refine Dw_skip (fun _ _ _ ht => wanted_x rfl (ht 34 rfl) rfl) ?_
      refine Dw_skip (fun _ _ _ ht => wanted_x rfl (ht 34 rfl) rfl) ?_
      refine Dw_skip (fun _ _ _ ht => wanted_x rfl (ht 34 rfl) rfl) ?_
      refine Dw_skip (fun _ _ _ ht => wanted_x rfl (ht 34 rfl) rfl) ?_
      refine Dw_skip (fun _ _ _ ht => wanted_x rfl (ht 34 rfl) rfl) ?_
      refine Dw_skip (fun _ _ _ ht => wanted_x rfl (ht 34 rfl) rfl) ?_
      refine Dw_skip (fun _ _ _ ht => wanted_x rfl (ht 34 rfl) rfl) ?_
      refine Dw_skip (fun _ _ _ ht => wanted_x rfl (ht 34 rfl) rfl) ?_
      refine Dw_skip (fun _ _ _ ht => wanted_x rfl (ht 34 rfl) rfl) ?_
      refine Dw_skip (fun _ _ _ ht => wanted_x rfl (ht 34 rfl) rfl) ?_
      refine Dw_eq (Value.bool true) (fun ρ167 w168 g hle hi ht => ?_) ?_
      ·
       obtain ⟨-, hst, -⟩ := hle
       refine StepOp_plain (op_pick_t (v := (Value.bool true)) (ht 34 rfl) rfl ?_)
       exact Goes.same hi rfl
      refine Dw_eq (Value.bool true) (fun ρ170 w171 g hle hi ht => ?_) ?_
      ·
       obtain ⟨-, hst, -⟩ := hle
       refine StepOp_plain (op_move (v := (Value.bool true)) (ht 45 rfl) ?_)
       exact Goes.same hi rfl
      refine Dw_skip (fun _ _ _ ht => wanted_x rfl (ht 46 rfl) rfl) ?_
      refine Dw_skip (fun _ _ _ ht => wanted_x rfl (ht 46 rfl) rfl) ?_
      refine Dw_skip (fun _ _ _ ht => wanted_x rfl (ht 46 rfl) rfl) ?_
      refine Dw_skip (fun _ _ _ ht => wanted_x rfl (ht 46 rfl) rfl) ?_
      refine Dw_nil fun w177 g178 hl179 hi180 => ?_
      obtain ⟨-, hst181, -⟩ := hl179
      obtain ⟨hs183, p182⟩ := Step.nx hi180
      rintro _ rfl
      rintro _ rfl
      rintro _ rfl
      rintro _ rfl
      rintro _ rfl
      rintro _ rfl
      rintro _ rfl
      rintro _ rfl
      rintro _ rfl
      rintro _ rfl
      rintro _ rfl
      rintro _ rfl
      rintro _ rfl
      rintro _ rfl
      rintro _ rfl
      rintro _ rfl
      rintro _ rfl
      rintro _ rfl
      rintro _ rfl
      rintro _ rfl
      rintro _ rfl
      rintro _ rfl
      rintro _ rfl
      rintro _ rfl
      rintro _ rfl
      rintro _ rfl
      rintro _ rfl
      rintro _ rfl
      rintro _ rfl
      rintro v184 h185
      replace h185 : Vr.vd vB _ _ _ _ := h185
      obtain rfl := h185
      rintro _ rfl
      rintro _ rfl
      have p187 : Step (ks [(k_g24, o_g24)] Oz30) w40 (ks [(k_g24, o_g24)] Oz30) w177 := hst181.trans p182
      replace f_fv0_ := f_fv0_.step p187; replace f_g24 := f_g24.step p187; replace f_y59 := f_y59.step p187; replace ch20 := ch20.trans p187; replace ch45 := ch45.trans p187; replace ch135 := ch135.trans p187; clear p187 hs41
      refine Rg_opx rfl (asB_ne rfl rfl) rfl ?_
      refine Rg_op rfl (op_pick_t (v := (Value.bool true)) rfl rfl ?_)
      refine Rg_nil ?_
      exact hK71 _ _ ⟨true, xr26, pre27, wz28, Kz29, Oz30, _, rfl, ⟨(by repeat (first | with_reducible exact Out.refl _ _ | refine Out.upd ?_ rfl | refine Out.updL ?_ rfl | refine Out.mix' ?_ rfl | exact Out.refl _ _)), rfl, rfl, trivial⟩, ch135, hs183, hI31, hL32, hm⟩
     ·
      replace hm := bif_f hm hg160
      refine Dw_eq (Value.slice a_y59 (fv0_.getD n_1.toNat default).length c_y59) (fun ρ188 w189 g hle hi ht => ?_) ?_
      ·
       obtain ⟨-, hst, -⟩ := hle
       refine StepOp_g rfl (ht 23 rfl) (op_move (v := (Value.slice a_y59 (fv0_.getD n_1.toNat default).length c_y59)) (ht 7 rfl) ?_)
       exact Goes.same hi rfl
      replace hm := ck_some hm; obtain ⟨hc194, hm⟩ := hm
      refine Dw_op (VP Oz30 [(k_g24, o_g24)] rU8 ((fv0_.getD n_1.toNat default).getD 10 default)) (VP.stab _ _) (fun ρ191 w192 g hle hi ht => ?_) ?_
      ·
       obtain ⟨-, hst, -⟩ := hle
       replace f_y59 := f_y59.step hst
       refine StepOp_g rfl (ht 23 rfl) (op_indexAddr (q := rU8) ty41 ty5 (ht 24 rfl) rfl f_y59 rfl hc194.1 hc194.2 ?_)
       intro p195 f196
       replace f196 : PtR rU8 _ _ p195 ((fv0_.getD n_1.toNat default).getD 10 default) := f196
       exact Goes.same hi ⟨_, rfl, f196⟩
      refine Dw_eq (Value.int .u8 (((fv0_.getD n_1.toNat default).getD 10 default).toNat : Int)) (fun ρ197 w198 g hle hi ht => ?_) ?_
      ·
       obtain ⟨-, hst, -⟩ := hle
       obtain ⟨p200, q201, f202⟩ := ht 25 rfl
       refine StepOp_g rfl (ht 23 rfl) (op_loadP ty5 q201 f202 rfl ?_)
       intro v203 h204
       obtain rfl := un_u8 h204
       exact Goes.same hi rfl
      refine Dw_eq (Value.int .u8 ((UInt8.ofNat (Go.bits .and .u8 (((fv0_.getD n_1.toNat default).getD 10 default).toNat : Int) 1).toNat).toNat : Int)) (fun ρ206 w207 g hle hi ht => ?_) ?_
      ·
       obtain ⟨-, hst, -⟩ := hle
       refine StepOp_g rfl (ht 23 rfl) (run1_u8 (e := (Go.bits .and .u8 (((fv0_.getD n_1.toNat default).getD 10 default).toNat : Int) 1)) (inK_bits .and .u8 _ _) (fun _ hk => op_and (ht 26 rfl) rfl hk) ?_)
       exact Goes.same hi rfl
      refine Dw_eq (Value.bool (decide (((UInt8.ofNat (Go.bits .and .u8 (((fv0_.getD n_1.toNat default).getD 10 default).toNat : Int) 1).toNat).toNat : Int) ≠ 0))) (fun ρ209 w210 g hle hi ht => ?_) ?_
      ·
       obtain ⟨-, hst, -⟩ := hle
       refine StepOp_g rfl (ht 23 rfl) (op_neq (ht 27 rfl) rfl ?_)
       exact Goes.same hi rfl
      refine Dw_eq (Value.int .i64 n_1) (fun ρ212 w213 g hle hi ht => ?_) ?_
      ·
       obtain ⟨-, hst, -⟩ := hle
       refine StepOp_g rfl (ht 23 rfl) (op_move (v := (Value.int .i64 n_1)) (ht 6 rfl) ?_)
       exact Goes.same hi rfl
      refine Dw_eq (Value.int .i64 at_2) (fun ρ215 w216 g hle hi ht => ?_) ?_
      ·
       obtain ⟨-, hst, -⟩ := hle
       refine StepOp_g rfl (ht 23 rfl) (op_move (v := (Value.int .i64 at_2)) (ht 3 rfl) ?_)
       exact Goes.same hi rfl
      refine Dw_eq (Value.bool (decide (n_1 = at_2))) (fun ρ218 w219 g hle hi ht => ?_) ?_
      ·
       obtain ⟨-, hst, -⟩ := hle
       refine StepOp_g rfl (ht 23 rfl) (op_eql (ht 29 rfl) (ht 30 rfl) ?_)
       exact Goes.same hi rfl
      refine Dw_eq (Value.bool (!((decide (((UInt8.ofNat (Go.bits .and .u8 (((fv0_.getD n_1.toNat default).getD 10 default).toNat : Int) 1).toNat).toNat : Int) ≠ 0)) == (decide (n_1 = at_2))))) (fun ρ221 w222 g hle hi ht => ?_) ?_
      ·
       obtain ⟨-, hst, -⟩ := hle
       refine StepOp_g rfl (ht 23 rfl) (op_neqb Try.underlying4 (ht 28 rfl) (ht 31 rfl) ?_)
       exact Goes.same hi rfl
      refine Dw_eq (Value.bool (!((decide (((UInt8.ofNat (Go.bits .and .u8 (((fv0_.getD n_1.toNat default).getD 10 default).toNat : Int) 1).toNat).toNat : Int) ≠ 0)) == (decide (n_1 = at_2))))) (fun ρ224 w225 g hle hi ht => ?_) ?_
      ·
       obtain ⟨-, hst, -⟩ := hle
       refine StepOp_plain (op_pick_f (v := (Value.bool (!((decide (((UInt8.ofNat (Go.bits .and .u8 (((fv0_.getD n_1.toNat default).getD 10 default).toNat : Int) 1).toNat).toNat : Int) ≠ 0)) == (decide (n_1 = at_2)))))) (ht 23 rfl) (ht 32 rfl) ?_)
       exact Goes.same hi rfl
      refine Dw_opB (!((decide (((UInt8.ofNat (Go.bits .and .u8 (((fv0_.getD n_1.toNat default).getD 10 default).toNat : Int) 1).toNat).toNat : Int) ≠ 0)) == (decide (n_1 = at_2)))) (fun ρ227 w228 g hle hi ht => ?_) (fun hg230 => ?_) (fun hg230 => ?_)
      ·
       obtain ⟨-, hst, -⟩ := hle
       refine StepOp_plain (op_move (v := (Value.bool (!((decide (((UInt8.ofNat (Go.bits .and .u8 (((fv0_.getD n_1.toNat default).getD 10 default).toNat : Int) 1).toNat).toNat : Int) ≠ 0)) == (decide (n_1 = at_2)))))) (ht 33 rfl) ?_)
       exact Goes.same hi rfl
      ·
       replace hm := bif_t hm hg230
       refine Dw_skip (fun _ _ _ ht => wanted_x rfl (ht 34 rfl) rfl) ?_
       refine Dw_skip (fun _ _ _ ht => wanted_x rfl (ht 34 rfl) rfl) ?_
       refine Dw_skip (fun _ _ _ ht => wanted_x rfl (ht 34 rfl) rfl) ?_
       refine Dw_skip (fun _ _ _ ht => wanted_x rfl (ht 34 rfl) rfl) ?_
       refine Dw_skip (fun _ _ _ ht => wanted_x rfl (ht 34 rfl) rfl) ?_
       refine Dw_skip (fun _ _ _ ht => wanted_x rfl (ht 34 rfl) rfl) ?_
       refine Dw_skip (fun _ _ _ ht => wanted_x rfl (ht 34 rfl) rfl) ?_
       refine Dw_skip (fun _ _ _ ht => wanted_x rfl (ht 34 rfl) rfl) ?_
       refine Dw_skip (fun _ _ _ ht => wanted_x rfl (ht 34 rfl) rfl) ?_
       refine Dw_skip (fun _ _ _ ht => wanted_x rfl (ht 34 rfl) rfl) ?_
       refine Dw_eq (Value.bool true) (fun ρ231 w232 g hle hi ht => ?_) ?_
       ·
        obtain ⟨-, hst, -⟩ := hle
        refine StepOp_plain (op_pick_t (v := (Value.bool true)) (ht 34 rfl) rfl ?_)
        exact Goes.same hi rfl
       refine Dw_eq (Value.bool true) (fun ρ234 w235 g hle hi ht => ?_) ?_
       ·
        obtain ⟨-, hst, -⟩ := hle
        refine StepOp_plain (op_move (v := (Value.bool true)) (ht 45 rfl) ?_)
        exact Goes.same hi rfl
       refine Dw_skip (fun _ _ _ ht => wanted_x rfl (ht 46 rfl) rfl) ?_
       refine Dw_skip (fun _ _ _ ht => wanted_x rfl (ht 46 rfl) rfl) ?_
       refine Dw_skip (fun _ _ _ ht => wanted_x rfl (ht 46 rfl) rfl) ?_
       refine Dw_skip (fun _ _ _ ht => wanted_x rfl (ht 46 rfl) rfl) ?_
       refine Dw_nil fun w241 g242 hl243 hi244 => ?_
       obtain ⟨-, hst245, -⟩ := hl243
       obtain ⟨hs247, p246⟩ := Step.nx hi244
       rintro _ rfl
       rintro _ rfl
       rintro _ rfl
       rintro _ rfl
       rintro _ rfl
       rintro _ rfl
       rintro _ rfl
       rintro _ rfl
       rintro _ rfl
       rintro _ rfl
       rintro _ rfl
       rintro _ rfl
       rintro _ rfl
       rintro _ rfl
       rintro _ rfl
       rintro _ rfl
       rintro _ rfl
       rintro _ rfl
       rintro _ rfl
       rintro _ rfl
       rintro _ rfl
       rintro _ rfl
       rintro _ rfl
       rintro _ rfl
       rintro _ rfl
       rintro _ ⟨p248, rfl, f249⟩
       rintro _ rfl
       rintro _ rfl
       rintro _ rfl
       rintro v250 h251
       replace h251 : Vr.vd vB _ _ _ _ := h251
       obtain rfl := h251
       rintro _ rfl
       rintro _ rfl
       have p253 : Step (ks [(k_g24, o_g24)] Oz30) w40 (ks [(k_g24, o_g24)] Oz30) w241 := hst245.trans p246
       replace f249 := f249.step p246; replace f_fv0_ := f_fv0_.step p253; replace f_g24 := f_g24.step p253; replace f_y59 := f_y59.step p253; replace ch20 := ch20.trans p253; replace ch45 := ch45.trans p253; replace ch135 := ch135.trans p253; clear p253 hs41
       refine Rg_opx rfl (asB_ne rfl rfl) rfl ?_
       refine Rg_op rfl (op_pick_t (v := (Value.bool true)) rfl rfl ?_)
       refine Rg_nil ?_
       exact hK71 _ _ ⟨true, xr26, pre27, wz28, Kz29, Oz30, _, rfl, ⟨(by repeat (first | with_reducible exact Out.refl _ _ | refine Out.upd ?_ rfl | refine Out.updL ?_ rfl | refine Out.mix' ?_ rfl | exact Out.refl _ _)), rfl, rfl, trivial⟩, ch135, hs247, hI31, hL32, hm⟩
      ·
       replace hm := bif_f hm hg230
       refine Dw_eq (Value.slice a_y59 (fv0_.getD n_1.toNat default).length c_y59) (fun ρ254 w255 g hle hi ht => ?_) ?_
       ·
        obtain ⟨-, hst, -⟩ := hle
        refine StepOp_g rfl (ht 34 rfl) (op_move (v := (Value.slice a_y59 (fv0_.getD n_1.toNat default).length c_y59)) (ht 7 rfl) ?_)
        exact Goes.same hi rfl
       replace hm := ck_some hm; obtain ⟨hc260, hm⟩ := hm
       refine Dw_op (VD Oz30 [(k_g24, o_g24)] (vC (rSl rU8)) (((fv0_.getD n_1.toNat default).drop 0).take (4 - 0))) (VD.stab _ _) (fun ρ257 w258 g hle hi ht => ?_) ?_
       ·
        obtain ⟨-, hst, -⟩ := hle
        replace f_y59 := f_y59.step hst
        refine StepOp_g rfl (ht 34 rfl) (op_slice (q := rU8) (l := 0) (h := 4) (m := c_y59) ty41 ty5 (ht 35 rfl) f_y59 rfl rfl (bndI rfl (by omega)) rfl (by decide) (by omega) (by omega) (by have h_ : (fv0_.getD n_1.toNat default).length ≤ c_y59 := f_y59.le; omega) (by have h_ : (fv0_.getD n_1.toNat default).length ≤ c_y59 := f_y59.le; omega) ?_)
        intro a261 f262
        exact Goes.same hi (show Vr.vd (vC (rSl rU8)) _ _ _ _ from (mkC (mk_sl f262)))
       replace hm := bd hm; obtain ⟨get_2, hv269, hm⟩ := hm
       refine Dw_op (VD Oz30 [(k_g24, o_g24)] (vI .u64) get_2) (VD.stab _ _) (fun ρ263 w264 g hle hi ht => ?_) ?_
       ·
        obtain ⟨-, hst, -⟩ := hle
        have h266 : Vr.vd (vC (rSl rU8)) _ _ _ _ := ht 36 rfl
        obtain ⟨a_y268, c_y268, q267, f_y268⟩ := un_sl h266
        refine StepOp_g rfl (ht 34 rfl) (op_call Try.call60 (c60_journal_get (O := ks (ents g ++ [(k_g24, o_g24)]) Oz30) (b := (((fv0_.getD n_1.toNat default).drop 0).take (4 - 0))) hi.ltw f_y268 hv269) (by simp only [List.map, Array.toList, (show ev _ (.tmp 36) = _ from q267)] <;> rfl) ?_)
        rintro v270 w271 ⟨hx272, h273⟩
        exact Goes.call hi hx272 h273
       refine Dw_op (VD Oz30 [(k_g24, o_g24)] (vC (rSl (rSl rU8))) fv0_) (VD.stab _ _) (fun ρ275 w276 g hle hi ht => ?_) ?_
       ·
        obtain ⟨-, hst, -⟩ := hle
        replace f_fv0_ := f_fv0_.step hst
        refine StepOp_g rfl (ht 34 rfl) (op_loadP ty22 (ht 1 rfl) f_fv0_ rfl ?_)
        intro v278 h279
        obtain ⟨a_y280, c_y280, rfl, f_y280⟩ := un_sl h279
        exact Goes.same hi (show Vr.vd (vC (rSl (rSl rU8))) _ _ _ _ from (mkC (mk_sl f_y280)))
       refine Dw_eq (Value.int .i64 at_2) (fun ρ281 w282 g hle hi ht => ?_) ?_
       ·
        obtain ⟨-, hst, -⟩ := hle
        refine StepOp_g rfl (ht 34 rfl) (op_move (v := (Value.int .i64 at_2)) (ht 3 rfl) ?_)
        exact Goes.same hi rfl
       replace hm := ck_some hm; obtain ⟨hc290, hm⟩ := hm
       refine Dw_op (VP Oz30 [(k_g24, o_g24)] (rSl rU8) (fv0_.getD at_2.toNat default)) (VP.stab _ _) (fun ρ284 w285 g hle hi ht => ?_) ?_
       ·
        obtain ⟨-, hst, -⟩ := hle
        have h287 : Vr.vd (vC (rSl (rSl rU8))) _ _ _ _ := ht 38 rfl
        obtain ⟨a_y289, c_y289, q288, f_y289⟩ := un_sl h287
        refine StepOp_g rfl (ht 34 rfl) (op_indexAddr (q := (rSl rU8)) ty22 ty41 q288 (ht 39 rfl) f_y289 rfl hc290.1 hc290.2 ?_)
        intro p291 f292
        exact Goes.same hi ⟨_, rfl, f292⟩
       refine Dw_op (VD Oz30 [(k_g24, o_g24)] (vC (rSl rU8)) (fv0_.getD at_2.toNat default)) (VD.stab _ _) (fun ρ293 w294 g hle hi ht => ?_) ?_
       ·
        obtain ⟨-, hst, -⟩ := hle
        obtain ⟨p296, q297, f298⟩ := ht 40 rfl
        refine StepOp_g rfl (ht 34 rfl) (op_loadP ty41 q297 f298 rfl ?_)
        intro v299 h300
        obtain ⟨a_y301, c_y301, rfl, f_y301⟩ := un_sl h300
        exact Goes.same hi (show Vr.vd (vC (rSl rU8)) _ _ _ _ from (mkC (mk_sl f_y301)))
       replace hm := ck_some hm; obtain ⟨hc308, hm⟩ := hm
       refine Dw_op (VD Oz30 [(k_g24, o_g24)] (vC (rSl rU8)) (((fv0_.getD at_2.toNat default).drop 0).take (4 - 0))) (VD.stab _ _) (fun ρ302 w303 g hle hi ht => ?_) ?_
       ·
        obtain ⟨-, hst, -⟩ := hle
        have h305 : Vr.vd (vC (rSl rU8)) _ _ _ _ := ht 41 rfl
        obtain ⟨a_y307, c_y307, q306, f_y307⟩ := un_sl h305
        refine StepOp_g rfl (ht 34 rfl) (op_slice (q := rU8) (l := 0) (h := 4) (m := c_y307) ty41 ty5 q306 f_y307 rfl rfl (bndI rfl (by omega)) rfl (by decide) (by omega) (by omega) (by have h_ : (fv0_.getD at_2.toNat default).length ≤ c_y307 := f_y307.le; omega) (by have h_ : (fv0_.getD at_2.toNat default).length ≤ c_y307 := f_y307.le; omega) ?_)
        intro a309 f310
        exact Goes.same hi (show Vr.vd (vC (rSl rU8)) _ _ _ _ from (mkC (mk_sl f310)))
       replace hm := bd hm; obtain ⟨get_3, hv317, hm⟩ := hm
       refine Dw_op (VD Oz30 [(k_g24, o_g24)] (vI .u64) get_3) (VD.stab _ _) (fun ρ311 w312 g hle hi ht => ?_) ?_
       ·
        obtain ⟨-, hst, -⟩ := hle
        have h314 : Vr.vd (vC (rSl rU8)) _ _ _ _ := ht 42 rfl
        obtain ⟨a_y316, c_y316, q315, f_y316⟩ := un_sl h314
        refine StepOp_g rfl (ht 34 rfl) (op_call Try.call60 (c60_journal_get (O := ks (ents g ++ [(k_g24, o_g24)]) Oz30) (b := (((fv0_.getD at_2.toNat default).drop 0).take (4 - 0))) hi.ltw f_y316 hv317) (by simp only [List.map, Array.toList, (show ev _ (.tmp 42) = _ from q315)] <;> rfl) ?_)
        rintro v318 w319 ⟨hx320, h321⟩
        exact Goes.call hi hx320 h321
       refine Dw_eq (Value.bool (decide (get_2 ≠ get_3))) (fun ρ323 w324 g hle hi ht => ?_) ?_
       ·
        obtain ⟨-, hst, -⟩ := hle
        have h326 : Vr.vd (vI .u64) _ _ _ _ := ht 43 rfl
        obtain ⟨q327, r_y328⟩ := h326
        have h329 : Vr.vd (vI .u64) _ _ _ _ := ht 37 rfl
        obtain ⟨q330, r_y331⟩ := h329
        refine StepOp_g rfl (ht 34 rfl) (op_neq q330 q327 ?_)
        exact Goes.same hi rfl
       refine Dw_eq (Value.bool (decide (get_2 ≠ get_3))) (fun ρ332 w333 g hle hi ht => ?_) ?_
       ·
        obtain ⟨-, hst, -⟩ := hle
        refine StepOp_plain (op_pick_f (v := (Value.bool (decide (get_2 ≠ get_3)))) (ht 34 rfl) (ht 44 rfl) ?_)
        exact Goes.same hi rfl
       refine Dw_opB (decide (get_2 ≠ get_3)) (fun ρ335 w336 g hle hi ht => ?_) (fun hg338 => ?_) (fun hg338 => ?_)
       ·
        obtain ⟨-, hst, -⟩ := hle
        refine StepOp_plain (op_move (v := (Value.bool (decide (get_2 ≠ get_3)))) (ht 45 rfl) ?_)
        exact Goes.same hi rfl
       ·
        replace hm := bif_t hm hg338
        refine Dw_skip (fun _ _ _ ht => wanted_x rfl (ht 46 rfl) rfl) ?_
        refine Dw_skip (fun _ _ _ ht => wanted_x rfl (ht 46 rfl) rfl) ?_
        refine Dw_skip (fun _ _ _ ht => wanted_x rfl (ht 46 rfl) rfl) ?_
        refine Dw_skip (fun _ _ _ ht => wanted_x rfl (ht 46 rfl) rfl) ?_
        refine Dw_nil fun w343 g344 hl345 hi346 => ?_
        obtain ⟨-, hst347, -⟩ := hl345
        obtain ⟨hs349, p348⟩ := Step.nx hi346
        rintro _ rfl
        rintro _ rfl
        rintro _ rfl
        rintro _ rfl
        rintro _ rfl
        rintro _ rfl
        rintro _ rfl
        rintro v350 h351
        replace h351 : Vr.vd (vI .u64) _ _ _ _ := h351
        obtain ⟨rfl, r_y352⟩ := h351
        rintro v353 h354
        replace h354 : Vr.vd (vC (rSl rU8)) _ _ _ _ := h354
        obtain ⟨a_y355, c_y355, rfl, f_y355⟩ := un_sl h354
        rintro v356 h357
        replace h357 : Vr.vd (vC (rSl rU8)) _ _ _ _ := h357
        obtain ⟨a_y358, c_y358, rfl, f_y358⟩ := un_sl h357
        rintro _ ⟨p359, rfl, f360⟩
        rintro _ rfl
        rintro v361 h362
        replace h362 : Vr.vd (vC (rSl (rSl rU8))) _ _ _ _ := h362
        obtain ⟨a_y363, c_y363, rfl, f_y363⟩ := un_sl h362
        rintro v364 h365
        replace h365 : Vr.vd (vI .u64) _ _ _ _ := h365
        obtain ⟨rfl, r_y366⟩ := h365
        rintro v367 h368
        replace h368 : Vr.vd (vC (rSl rU8)) _ _ _ _ := h368
        obtain ⟨a_y369, c_y369, rfl, f_y369⟩ := un_sl h368
        rintro _ rfl
        rintro _ rfl
        rintro _ rfl
        rintro _ rfl
        rintro _ rfl
        rintro _ rfl
        rintro _ rfl
        rintro _ rfl
        rintro _ rfl
        rintro _ rfl
        rintro _ ⟨p370, rfl, f371⟩
        rintro _ rfl
        rintro _ rfl
        rintro _ rfl
        rintro v372 h373
        replace h373 : Vr.vd vB _ _ _ _ := h373
        obtain rfl := h373
        rintro _ rfl
        rintro _ rfl
        have p375 : Step (ks [(k_g24, o_g24)] Oz30) w40 (ks [(k_g24, o_g24)] Oz30) w343 := hst347.trans p348
        replace f_y355 := f_y355.step p348; replace f_y358 := f_y358.step p348; replace f360 := f360.step p348; replace f_y363 := f_y363.step p348; replace f_y369 := f_y369.step p348; replace f371 := f371.step p348; replace f_fv0_ := f_fv0_.step p375; replace f_g24 := f_g24.step p375; replace f_y59 := f_y59.step p375; replace ch20 := ch20.trans p375; replace ch45 := ch45.trans p375; replace ch135 := ch135.trans p375; clear p375 hs41
        refine Rg_opx rfl (asB_ne rfl rfl) rfl ?_
        refine Rg_op rfl (op_pick_t (v := (Value.bool true)) rfl rfl ?_)
        refine Rg_nil ?_
        exact hK71 _ _ ⟨true, xr26, pre27, wz28, Kz29, Oz30, _, rfl, ⟨(by repeat (first | with_reducible exact Out.refl _ _ | refine Out.upd ?_ rfl | refine Out.updL ?_ rfl | refine Out.mix' ?_ rfl | exact Out.refl _ _)), rfl, rfl, trivial⟩, ch135, hs349, hI31, hL32, hm⟩
       ·
        replace hm := bif_f hm hg338
        refine Dw_eq (Value.slice a_y59 (fv0_.getD n_1.toNat default).length c_y59) (fun ρ376 w377 g hle hi ht => ?_) ?_
        ·
         obtain ⟨-, hst, -⟩ := hle
         refine StepOp_g rfl (ht 46 rfl) (op_move (v := (Value.slice a_y59 (fv0_.getD n_1.toNat default).length c_y59)) (ht 7 rfl) ?_)
         exact Goes.same hi rfl
        replace hm := ck_some hm; obtain ⟨hc382, hm⟩ := hm
        refine Dw_op (VD Oz30 [(k_g24, o_g24)] (vC (rSl rU8)) (((fv0_.getD n_1.toNat default).drop 0).take (4 - 0))) (VD.stab _ _) (fun ρ379 w380 g hle hi ht => ?_) ?_
        ·
         obtain ⟨-, hst, -⟩ := hle
         replace f_y59 := f_y59.step hst
         refine StepOp_g rfl (ht 46 rfl) (op_slice (q := rU8) (l := 0) (h := 4) (m := c_y59) ty41 ty5 (ht 47 rfl) f_y59 rfl rfl (bndI rfl (by omega)) rfl (by decide) (by omega) (by omega) (by have h_ : (fv0_.getD n_1.toNat default).length ≤ c_y59 := f_y59.le; omega) (by have h_ : (fv0_.getD n_1.toNat default).length ≤ c_y59 := f_y59.le; omega) ?_)
         intro a383 f384
         exact Goes.same hi (show Vr.vd (vC (rSl rU8)) _ _ _ _ from (mkC (mk_sl f384)))
        replace hm := bd hm; obtain ⟨get_4, hv391, hm⟩ := hm
        refine Dw_op (VD Oz30 [(k_g24, o_g24)] (vI .u64) get_4) (VD.stab _ _) (fun ρ385 w386 g hle hi ht => ?_) ?_
        ·
         obtain ⟨-, hst, -⟩ := hle
         have h388 : Vr.vd (vC (rSl rU8)) _ _ _ _ := ht 48 rfl
         obtain ⟨a_y390, c_y390, q389, f_y390⟩ := un_sl h388
         refine StepOp_g rfl (ht 46 rfl) (op_call Try.call60 (c60_journal_get (O := ks (ents g ++ [(k_g24, o_g24)]) Oz30) (b := (((fv0_.getD n_1.toNat default).drop 0).take (4 - 0))) hi.ltw f_y390 hv391) (by simp only [List.map, Array.toList, (show ev _ (.tmp 48) = _ from q389)] <;> rfl) ?_)
         rintro v392 w393 ⟨hx394, h395⟩
         exact Goes.call hi hx394 h395
        refine Dw_eq (Value.int .u64 last_2) (fun ρ397 w398 g hle hi ht => ?_) ?_
        ·
         obtain ⟨-, hst, -⟩ := hle
         refine StepOp_g rfl (ht 46 rfl) (op_move (v := (Value.int .u64 last_2)) (ht 4 rfl) ?_)
         exact Goes.same hi rfl
        refine Dw_nil fun w404 g405 hl406 hi407 => ?_
        obtain ⟨-, hst408, -⟩ := hl406
        obtain ⟨hs410, p409⟩ := Step.nx hi407
        rintro _ rfl
        rintro v411 h412
        replace h412 : Vr.vd (vI .u64) _ _ _ _ := h412
        obtain ⟨rfl, r_y413⟩ := h412
        rintro v414 h415
        replace h415 : Vr.vd (vC (rSl rU8)) _ _ _ _ := h415
        obtain ⟨a_y416, c_y416, rfl, f_y416⟩ := un_sl h415
        rintro _ rfl
        rintro _ rfl
        rintro _ rfl
        rintro _ rfl
        rintro v417 h418
        replace h418 : Vr.vd (vI .u64) _ _ _ _ := h418
        obtain ⟨rfl, r_y419⟩ := h418
        rintro v420 h421
        replace h421 : Vr.vd (vC (rSl rU8)) _ _ _ _ := h421
        obtain ⟨a_y422, c_y422, rfl, f_y422⟩ := un_sl h421
        rintro v423 h424
        replace h424 : Vr.vd (vC (rSl rU8)) _ _ _ _ := h424
        obtain ⟨a_y425, c_y425, rfl, f_y425⟩ := un_sl h424
        rintro _ ⟨p426, rfl, f427⟩
        rintro _ rfl
        rintro v428 h429
        replace h429 : Vr.vd (vC (rSl (rSl rU8))) _ _ _ _ := h429
        obtain ⟨a_y430, c_y430, rfl, f_y430⟩ := un_sl h429
        rintro v431 h432
        replace h432 : Vr.vd (vI .u64) _ _ _ _ := h432
        obtain ⟨rfl, r_y433⟩ := h432
        rintro v434 h435
        replace h435 : Vr.vd (vC (rSl rU8)) _ _ _ _ := h435
        obtain ⟨a_y436, c_y436, rfl, f_y436⟩ := un_sl h435
        rintro _ rfl
        rintro _ rfl
        rintro _ rfl
        rintro _ rfl
        rintro _ rfl
        rintro _ rfl
        rintro _ rfl
        rintro _ rfl
        rintro _ rfl
        rintro _ rfl
        rintro _ ⟨p437, rfl, f438⟩
        rintro _ rfl
        rintro _ rfl
        rintro _ rfl
        rintro v439 h440
        replace h440 : Vr.vd vB _ _ _ _ := h440
        obtain rfl := h440
        rintro _ rfl
        rintro _ rfl
        have p442 : Step (ks [(k_g24, o_g24)] Oz30) w40 (ks [(k_g24, o_g24)] Oz30) w404 := hst408.trans p409
        replace f_y416 := f_y416.step p409; replace f_y422 := f_y422.step p409; replace f_y425 := f_y425.step p409; replace f427 := f427.step p409; replace f_y430 := f_y430.step p409; replace f_y436 := f_y436.step p409; replace f438 := f438.step p409; replace f_fv0_ := f_fv0_.step p442; replace f_g24 := f_g24.step p442; replace f_y59 := f_y59.step p442; replace ch20 := ch20.trans p442; replace ch45 := ch45.trans p442; replace ch135 := ch135.trans p442; clear p442 hs41
        refine Rg_opg rfl rfl rfl (op_lss rfl rfl ?_)
        refine Rg_op rfl (op_pick_f (v := (Value.bool (decide (get_4 < last_2)))) rfl rfl ?_)
        refine Rg_nil ?_
        exact hK71 _ _ ⟨(decide (get_4 < last_2)), xr26, pre27, wz28, Kz29, Oz30, _, rfl, ⟨(by repeat (first | with_reducible exact Out.refl _ _ | refine Out.upd ?_ rfl | refine Out.updL ?_ rfl | refine Out.mix' ?_ rfl | exact Out.refl _ _)), rfl, rfl, trivial⟩, ch135, hs410, hI31, hL32, hm⟩
   ·
    replace hm := bif_f hm hc50
    refine Wp_exit ?_
    refine Wp_ret ?_
    have h443 := hI31.fin hJ hs41
    rw [← Option.some.inj hm, List.append_nil] at hL32; rw [← hL32] at h443
    exact ⟨_, (show Closes [] _ _ from rfl), [], trivial, _, .inl h443⟩

end Go.Fx



set_option linter.unusedVariables false
set_option linter.unusedSimpArgs false
set_option maxRecDepth 100000
set_option maxHeartbeats 0
namespace Go.Fx
open Go Go.RowKit Go.Proofs
def m59_journal_records (l : List (List UInt8)) : Option (List (Int × (List UInt8))) :=
 (m69_journal_records_1 l).bind fun l_1 =>
 some l_1

theorem c59_journal_records {w : World} {O : List Nat} {l : List (List UInt8)} {a_l : Option Addr} {c_l : Nat} (hO : ∀ k ∈ O, k < w.heap.size) (f_l : SlR (rSl rU8) w O a_l c_l l) {x : (List (Int × (List UInt8)))} (hm : m59_journal_records l = some x) :
  Ok Try.prog 59 [(Value.slice a_l l.length c_l)] w O (vIt Try.prog (enc2 (vI .i64) (vC (rSl rU8)))) x := by
 unfold m59_journal_records at hm
 refine Fn_of_Wp (n := 4) (xs := [.tmp 2]) Try.func59 rfl Try.ntmps59 Try.results59 rfl ?_
 have hs := St.start hO
 refine Wp_seq ?_
 refine Wp_region ?_
 refine Rg_op rfl (op_box (cs := [(Value.slice a_l l.length c_l)]) hs rfl rfl ?_)
 intro b1 w2 _ p3 hs4
 replace f_l := f_l.step p3; clear p3
 refine Rg_op rfl (op_assign (v := Value.nilFunc) rfl ?_)
 refine Rg_nil ?_
 refine Wp_seq ?_
 refine Wp_region ?_
 obtain ⟨hs7, p8, f6⟩ := St.publishP (p := (rSl (rSl rU8))) (i := 0) (x := l) hs4 rfl (mk_sl f_l)
 replace f_l := f_l.step p8; clear p8 hs4
 refine Rg_op rfl (op_makeFunc' (a' := []) (c' := [(Value.pointer (some (⟨b1, 0, none⟩ : Addr)))]) rfl rfl ?_)
 replace hm := bd hm; obtain ⟨l_1, hv9, hm⟩ := hm
 have F10 : ItR Try.prog (enc2 (vI .i64) (vC (rSl rU8))) w2 (ks [] O) (Value.func (.func 69) #[] #[(Value.pointer (some (⟨b1, 0, none⟩ : Addr)))]) l_1 := ⟨69, [(Value.pointer (some (⟨b1, 0, none⟩ : Addr)))], rfl, Try.call69, c69_journal_records_1 hs7.ltw f6 hv9⟩
 refine Rg_op rfl (op_assign (v := (Value.func (.func 69) #[] #[(Value.pointer (some (⟨b1, 0, none⟩ : Addr)))])) rfl ?_)
 refine Rg_nil ?_
 refine Wp_ret ?_
 have hz := step_all hs7
 replace f_l := f_l.step hz; replace f6 := f6.step hz; replace F10 := F10.step hz
 refine ⟨_, (show Closes [] _ _ from rfl), [(Value.func (.func 69) #[] #[(Value.pointer (some (⟨b1, 0, none⟩ : Addr)))])], ⟨rfl, trivial⟩, hs7.ext, ?_⟩
 exact Vr.eq (a := (vIt Try.prog (enc2 (vI .i64) (vC (rSl rU8))))) (x := l_1) F10 (Option.some.inj hm)

end Go.Fx



set_option linter.unusedVariables false
set_option linter.unusedSimpArgs false
set_option maxRecDepth 100000
set_option maxHeartbeats 0
namespace Go.Fx
open Go Go.RowKit Go.Proofs
def m38_journal_Open_B0 (sf72 : (List (List UInt8)) → Option (XJournal × Int)) (xi63 : Int × (List UInt8)) (v_1 : List (List UInt8)) : Option (XJournal × Int) :=
 ck ((v_1.length + [xi63.2].length) * 24 ≤ 140737488355328) <|
 sf72 (v_1 ++ [xi63.2])

def m38_journal_Open (d : XDisk) : Option (XJournal × Int) :=
 (m18_disk_Check d).bind fun check_1 =>
 bif (decide (check_1 ≠ 0)) then
  some ((⟨([] : List (List UInt8)), 0, 0⟩ : XJournal), check_1)
 else
  bif d.stopped then
   some ((⟨([] : List (List UInt8)), 0, 0⟩ : XJournal), 440)
  else
   bif (decide (0 < (d.pending.length : Int))) then
    some ((⟨([] : List (List UInt8)), 0, 0⟩ : XJournal), 1)
   else
    (m59_journal_records d.sectors).bind fun records_1 =>
    jn (fun (v_1 : List (List UInt8)) =>
     some ((⟨v_1, (d.sectors.length : Int), (v_1.length : Int)⟩ : XJournal), 0))
    (fun k52 =>
     rng1 m38_journal_Open_B0 k52 records_1 ([] : List (List UInt8)))

theorem c38_journal_Open {w : World} {O : List Nat} {d : XDisk} {a_d_sectors : Option Addr} {c_d_sectors : Nat} {a_d_pending : Option Addr} {c_d_pending : Nat} (hO : ∀ k ∈ O, k < w.heap.size) (f_d_sectors : SlR (rSl rU8) w O a_d_sectors c_d_sectors d.sectors) (f_d_pending : SlR rXWrite w O a_d_pending c_d_pending d.pending) (r_d_left : InK .i64 d.left) {x : XJournal × Int} (hm : m38_journal_Open d = some x) :
  Ok Try.prog 38 [(Value.agg [(Value.slice a_d_sectors d.sectors.length c_d_sectors), (Value.slice a_d_pending d.pending.length c_d_pending), (Value.int .i64 d.left), (Value.bool d.stopped)].toArray)] w O (vT2 (vA rXJournal) (vI .i64)) x := by
 unfold m38_journal_Open at hm
 refine Fn_of_Wp (n := 41) (xs := [.cell 2 52, .tmp 3]) Try.func38 rfl Try.ntmps38 Try.results38 rfl ?_
 have hs := St.start hO
 refine Wp_seq ?_
 refine Wp_region ?_
 refine Rg_op rfl (op_box (cs := [(Value.slice a_d_sectors d.sectors.length c_d_sectors), (Value.slice a_d_pending d.pending.length c_d_pending), (Value.int .i64 d.left), (Value.bool d.stopped)]) hs rfl rfl ?_)
 intro b1 w2 _ p3 hs4
 replace f_d_sectors := f_d_sectors.step p3; replace f_d_pending := f_d_pending.step p3; clear p3
 refine Rg_op rfl (op_alloc ty52 hs4 ?_)
 intro b6 w7 _ p8 hs9
 replace f_d_sectors := f_d_sectors.step p8; replace f_d_pending := f_d_pending.step p8; clear p8 hs4
 refine Rg_op rfl (op_assign (v := (Value.int .i64 0)) rfl ?_)
 refine Rg_nil ?_
 refine Wp_seq ?_
 refine Wp_seq ?_
 refine Wp_region ?_
 refine Rg_op rfl (op_loadA (cs := [(Value.slice a_d_sectors d.sectors.length c_d_sectors), (Value.slice a_d_pending d.pending.length c_d_pending), (Value.int .i64 d.left), (Value.bool d.stopped)]) (vs := [(Value.slice a_d_sectors d.sectors.length c_d_sectors), (Value.slice a_d_pending d.pending.length c_d_pending), (Value.int .i64 d.left), (Value.bool d.stopped)]) (i := 1) ty25 hs9 rfl rfl rfl rfl ?_)
 replace hm := bd hm; obtain ⟨check_1, hv11, hm⟩ := hm
 refine Rg_op rfl (op_call Try.call18 (c18_disk_Check (d := d) hs9.ltw f_d_sectors f_d_pending r_d_left hv11) rfl ?_)
 rintro v12 w13 ⟨hx14, h15⟩
 have hs16 := hs9.call hx14
 have p17 := Step.ext (O := ks [(some b6, Obj.cells [(Value.slice none 0 0), (Value.int .i64 0), (Value.int .i64 0)].toArray 52), (some b1, Obj.cells [(Value.slice a_d_sectors d.sectors.length c_d_sectors), (Value.slice a_d_pending d.pending.length c_d_pending), (Value.int .i64 d.left), (Value.bool d.stopped)].toArray 25)] O) hx14
 clear hx14
 replace f_d_sectors := f_d_sectors.step p17; replace f_d_pending := f_d_pending.step p17; clear p17 hs9
 obtain ⟨rfl, r_y18⟩ := h15
 refine Rg_op rfl (op_assign (v := (Value.int .i64 check_1)) rfl ?_)
 refine Rg_nil ?_
 refine Wp_seq ?_
 refine Wp_region ?_
 refine Rg_op rfl (op_move (v := (Value.int .i64 check_1)) rfl ?_)
 refine Rg_op rfl (op_neq rfl rfl ?_)
 refine Rg_nil ?_
 refine Wp_cond rfl (fun hc19 => ?_) (fun hc19 => ?_)
 ·
  replace hm := bif_t hm hc19
  refine Wp_seq ?_
  obtain ⟨hs20, p21⟩ := hs16.sub (bs' := [(some b6, Obj.cells [(Value.slice none 0 0), (Value.int .i64 0), (Value.int .i64 0)].toArray 52)]) (.cons_cons _ (.cons _ List.Sublist.slnil))
  clear f_d_sectors f_d_pending
  clear p21 hs16
  refine Wp_region ?_
  refine Rg_op rfl (op_build (vs := [(Value.slice none 0 0), (Value.int .i64 0), (Value.int .i64 0)]) (parts := []) ty52 pl52 rfl ?_)
  refine Rg_op rfl (op_move (v := (Value.int .i64 check_1)) rfl ?_)
  refine Rg_op_ (op_store (cs := [(Value.slice none 0 0), (Value.int .i64 0), (Value.int .i64 0)]) (vs := [(Value.slice none 0 0), (Value.int .i64 0), (Value.int .i64 0)]) (cs' := [(Value.slice none 0 0), (Value.int .i64 0), (Value.int .i64 0)]) (bs' := [(some b6, Obj.cells [(Value.slice none 0 0), (Value.int .i64 0), (Value.int .i64 0)].toArray 52)]) (i := 0) ty52 hs20 rfl rfl rfl rfl rfl (le_lit rfl) rfl rfl rfl ?_)
  intro w22 p23 hs24
  clear p23 hs20
  refine Rg_op rfl (op_assign (v := (Value.int .i64 check_1)) rfl ?_)
  refine Rg_nil ?_
  refine Wp_ret ?_
  have hz := step_all hs24
  refine ⟨_, (show Closes [] _ _ from rfl), [(Value.agg [(Value.slice none 0 0), (Value.int .i64 0), (Value.int .i64 0)].toArray), (Value.int .i64 check_1)], ⟨resA (cs := [(Value.slice none 0 0), (Value.int .i64 0), (Value.int .i64 0)]) (vs := [(Value.slice none 0 0), (Value.int .i64 0), (Value.int .i64 0)]) ty52 (i := 0) hs24 rfl rfl rfl rfl, rfl, trivial⟩, hs24.ext, ?_⟩
  exact Vr.eq (a := (vT2 (vA rXJournal) (vI .i64))) (x := ((⟨([] : List (List UInt8)), 0, 0⟩ : XJournal), check_1)) (mkT2 (mkA (mkVia (mk_pair (mk_sl SlR.nil_) (mk_pair (mk_int (show InK .i64 0 from by decide)) (mk_int (show InK .i64 0 from by decide)))))) ⟨rfl, r_y18⟩) (Option.some.inj hm)
 ·
  replace hm := bif_f hm hc19
  refine Wp_skip ?_
  refine Wp_seq ?_
  refine Wp_seq ?_
  refine Wp_region ?_
  refine Rg_op rfl (op_fieldAddr ty25 rfl ty4 (by decide) rfl (rfl : _ = (⟨_, 3, none⟩ : Addr)) ?_)
  refine Rg_op rfl (op_load (cs := [(Value.slice a_d_sectors d.sectors.length c_d_sectors), (Value.slice a_d_pending d.pending.length c_d_pending), (Value.int .i64 d.left), (Value.bool d.stopped)]) (i := 1) ty4 hs16 rfl rfl rfl ?_)
  refine Rg_nil ?_
  refine Wp_cond rfl (fun hc25 => ?_) (fun hc25 => ?_)
  ·
   replace hm := bif_t hm hc25
   refine Wp_seq ?_
   obtain ⟨hs26, p27⟩ := hs16.sub (bs' := [(some b6, Obj.cells [(Value.slice none 0 0), (Value.int .i64 0), (Value.int .i64 0)].toArray 52)]) (.cons_cons _ (.cons _ List.Sublist.slnil))
   clear f_d_sectors f_d_pending
   clear p27 hs16
   refine Wp_region ?_
   refine Rg_op rfl (op_build (vs := [(Value.slice none 0 0), (Value.int .i64 0), (Value.int .i64 0)]) (parts := []) ty52 pl52 rfl ?_)
   refine Rg_op_ (op_store (cs := [(Value.slice none 0 0), (Value.int .i64 0), (Value.int .i64 0)]) (vs := [(Value.slice none 0 0), (Value.int .i64 0), (Value.int .i64 0)]) (cs' := [(Value.slice none 0 0), (Value.int .i64 0), (Value.int .i64 0)]) (bs' := [(some b6, Obj.cells [(Value.slice none 0 0), (Value.int .i64 0), (Value.int .i64 0)].toArray 52)]) (i := 0) ty52 hs26 rfl rfl rfl rfl rfl (le_lit rfl) rfl rfl rfl ?_)
   intro w28 p29 hs30
   clear p29 hs26
   refine Rg_op rfl (op_assign (v := (Value.int .i64 440)) rfl ?_)
   refine Rg_nil ?_
   refine Wp_ret ?_
   have hz := step_all hs30
   refine ⟨_, (show Closes [] _ _ from rfl), [(Value.agg [(Value.slice none 0 0), (Value.int .i64 0), (Value.int .i64 0)].toArray), (Value.int .i64 440)], ⟨resA (cs := [(Value.slice none 0 0), (Value.int .i64 0), (Value.int .i64 0)]) (vs := [(Value.slice none 0 0), (Value.int .i64 0), (Value.int .i64 0)]) ty52 (i := 0) hs30 rfl rfl rfl rfl, rfl, trivial⟩, hs30.ext, ?_⟩
   exact Vr.eq (a := (vT2 (vA rXJournal) (vI .i64))) (x := ((⟨([] : List (List UInt8)), 0, 0⟩ : XJournal), 440)) (mkT2 (mkA (mkVia (mk_pair (mk_sl SlR.nil_) (mk_pair (mk_int (show InK .i64 0 from by decide)) (mk_int (show InK .i64 0 from by decide)))))) ⟨rfl, (show InK .i64 440 from by decide)⟩) (Option.some.inj hm)
  ·
   replace hm := bif_f hm hc25
   refine Wp_skip ?_
   refine Wp_seq ?_
   refine Wp_seq ?_
   refine Wp_region ?_
   refine Rg_op rfl (op_fieldAddr ty25 rfl ty23 (by decide) rfl (rfl : _ = (⟨_, 1, none⟩ : Addr)) ?_)
   refine Rg_op rfl (op_load (cs := [(Value.slice a_d_sectors d.sectors.length c_d_sectors), (Value.slice a_d_pending d.pending.length c_d_pending), (Value.int .i64 d.left), (Value.bool d.stopped)]) (i := 1) ty23 hs16 rfl rfl rfl ?_)
   refine Rg_op rfl (op_len Try.underlying23 rfl ?_)
   have rl31 := inK_len f_d_pending
   refine Rg_op rfl (op_gtr rfl rfl ?_)
   refine Rg_nil ?_
   refine Wp_cond rfl (fun hc32 => ?_) (fun hc32 => ?_)
   ·
    replace hm := bif_t hm hc32
    refine Wp_seq ?_
    obtain ⟨hs33, p34⟩ := hs16.sub (bs' := [(some b6, Obj.cells [(Value.slice none 0 0), (Value.int .i64 0), (Value.int .i64 0)].toArray 52)]) (.cons_cons _ (.cons _ List.Sublist.slnil))
    clear f_d_sectors f_d_pending
    clear p34 hs16
    refine Wp_region ?_
    refine Rg_op rfl (op_build (vs := [(Value.slice none 0 0), (Value.int .i64 0), (Value.int .i64 0)]) (parts := []) ty52 pl52 rfl ?_)
    refine Rg_op_ (op_store (cs := [(Value.slice none 0 0), (Value.int .i64 0), (Value.int .i64 0)]) (vs := [(Value.slice none 0 0), (Value.int .i64 0), (Value.int .i64 0)]) (cs' := [(Value.slice none 0 0), (Value.int .i64 0), (Value.int .i64 0)]) (bs' := [(some b6, Obj.cells [(Value.slice none 0 0), (Value.int .i64 0), (Value.int .i64 0)].toArray 52)]) (i := 0) ty52 hs33 rfl rfl rfl rfl rfl (le_lit rfl) rfl rfl rfl ?_)
    intro w35 p36 hs37
    clear p36 hs33
    refine Rg_op rfl (op_assign (v := (Value.int .i64 1)) rfl ?_)
    refine Rg_nil ?_
    refine Wp_ret ?_
    have hz := step_all hs37
    refine ⟨_, (show Closes [] _ _ from rfl), [(Value.agg [(Value.slice none 0 0), (Value.int .i64 0), (Value.int .i64 0)].toArray), (Value.int .i64 1)], ⟨resA (cs := [(Value.slice none 0 0), (Value.int .i64 0), (Value.int .i64 0)]) (vs := [(Value.slice none 0 0), (Value.int .i64 0), (Value.int .i64 0)]) ty52 (i := 0) hs37 rfl rfl rfl rfl, rfl, trivial⟩, hs37.ext, ?_⟩
    exact Vr.eq (a := (vT2 (vA rXJournal) (vI .i64))) (x := ((⟨([] : List (List UInt8)), 0, 0⟩ : XJournal), 1)) (mkT2 (mkA (mkVia (mk_pair (mk_sl SlR.nil_) (mk_pair (mk_int (show InK .i64 0 from by decide)) (mk_int (show InK .i64 0 from by decide)))))) ⟨rfl, (show InK .i64 1 from by decide)⟩) (Option.some.inj hm)
   ·
    replace hm := bif_f hm hc32
    refine Wp_skip ?_
    refine Wp_seq ?_
    refine Wp_region ?_
    refine Rg_op rfl (op_fieldAddr ty25 rfl ty22 (by decide) rfl (rfl : _ = (⟨_, 0, none⟩ : Addr)) ?_)
    refine Rg_op rfl (op_load (cs := [(Value.slice a_d_sectors d.sectors.length c_d_sectors), (Value.slice a_d_pending d.pending.length c_d_pending), (Value.int .i64 d.left), (Value.bool d.stopped)]) (i := 1) ty22 hs16 rfl rfl rfl ?_)
    refine Rg_op rfl (op_len Try.underlying22 rfl ?_)
    have rl38 := inK_len f_d_sectors
    refine Rg_op rfl (op_fieldAddr ty52 rfl ty3 (by decide) rfl (rfl : _ = (⟨_, 1, none⟩ : Addr)) ?_)
    refine Rg_op_ (op_store (cs := [(Value.slice none 0 0), (Value.int .i64 0), (Value.int .i64 0)]) (vs := [(Value.int .i64 (d.sectors.length : Int))]) (cs' := [(Value.slice none 0 0), (Value.int .i64 (d.sectors.length : Int)), (Value.int .i64 0)]) (bs' := [(some b6, Obj.cells [(Value.slice none 0 0), (Value.int .i64 (d.sectors.length : Int)), (Value.int .i64 0)].toArray 52), (some b1, Obj.cells [(Value.slice a_d_sectors d.sectors.length c_d_sectors), (Value.slice a_d_pending d.pending.length c_d_pending), (Value.int .i64 d.left), (Value.bool d.stopped)].toArray 25)]) (i := 0) ty3 hs16 rfl rfl rfl rfl rfl (le_lit rfl) rfl rfl rfl ?_)
    intro w39 p40 hs41
    replace f_d_sectors := f_d_sectors.step p40; replace f_d_pending := f_d_pending.step p40; clear p40 hs16
    refine Rg_nil ?_
    refine Wp_seq ?_
    refine Wp_seq ?_
    refine Wp_region ?_
    refine Rg_op rfl (op_fieldAddr ty25 rfl ty22 (by decide) rfl (rfl : _ = (⟨_, 0, none⟩ : Addr)) ?_)
    refine Rg_op rfl (op_load (cs := [(Value.slice a_d_sectors d.sectors.length c_d_sectors), (Value.slice a_d_pending d.pending.length c_d_pending), (Value.int .i64 d.left), (Value.bool d.stopped)]) (i := 1) ty22 hs41 rfl rfl rfl ?_)
    replace hm := bd hm; obtain ⟨records_1, hv42, hm⟩ := hm
    refine Rg_op rfl (op_call Try.call59 (c59_journal_records (l := d.sectors) hs41.ltw f_d_sectors hv42) rfl ?_)
    rintro v43 w44 ⟨hx45, h46⟩
    have hs47 := hs41.call hx45
    have p48 := Step.ext (O := ks [(some b6, Obj.cells [(Value.slice none 0 0), (Value.int .i64 (d.sectors.length : Int)), (Value.int .i64 0)].toArray 52), (some b1, Obj.cells [(Value.slice a_d_sectors d.sectors.length c_d_sectors), (Value.slice a_d_pending d.pending.length c_d_pending), (Value.int .i64 d.left), (Value.bool d.stopped)].toArray 25)] O) hx45
    clear hx45
    replace f_d_sectors := f_d_sectors.step p48; replace f_d_pending := f_d_pending.step p48; clear p48 hs41
    have F_y49 : ItR Try.prog (enc2 (vI .i64) (vC (rSl rU8))) _ _ v43 records_1 := h46
    refine Rg_nil ?_
    refine Wp_block ?_
    have hit58 := F_y49; obtain ⟨fk54, cp55, hvq56, hcl57, hit58⟩ := hit58
    replace hm := jn_elim hm; obtain ⟨k52, hk53, hm⟩ := hm
    have hs59 := hs47.ghost (Obj.cells #[] 41)
    refine Wp_rangeFunc (σ := (List (List UInt8)) × (Option Addr) × Nat × (Option Nat) × Obj) (ps := [28, 29]) hs59 (rfl.trans hvq56) hcl57 hit58 rfl enc2_len enc2_step (fun s => match s with | (v_1, a_g51, c_g51, k_g51, o_g51) => [(k_g51, o_g51), (some b6, Obj.cells [(Value.slice a_g51 v_1.length c_g51), (Value.int .i64 (d.sectors.length : Int)), (Value.int .i64 0)].toArray 52), (some b1, Obj.cells [(Value.slice a_d_sectors d.sectors.length c_d_sectors), (Value.slice a_d_pending d.pending.length c_d_pending), (Value.int .i64 d.left), (Value.bool d.stopped)].toArray 25)]) (fun s w O => match s with | (v_1, a_g51, c_g51, k_g51, o_g51) => Gs (rSl rU8) 41 w O a_g51 c_g51 v_1 k_g51 o_g51) (fun s w O w' O' p h => by obtain ⟨v_1, a_g51, c_g51, k_g51, o_g51⟩ := s; have h : Gs (rSl rU8) 41 w O a_g51 c_g51 v_1 k_g51 o_g51 := h; have f_g51 := h; exact f_g51.step p) (fun s l => match s with | (v_1, a_g51, c_g51, k_g51, o_g51) => rng1 m38_journal_Open_B0 k52 l v_1 = some x) [] (fun _ _ => False) (([] : List (List UInt8)), none, 0, none, (Obj.cells #[] 41)) rfl Gs.nil_ hm ?_ ?_ ?_
    ·
     rintro l61 E62 ⟨v_1, a_g51, c_g51, k_g51, o_g51⟩ xi63 rest64 w65 vs66 z67 hz68 hs69 hst70 f_g51 hm hx71
     replace hs69 : St z67 (E62 ++ O) w65 [(k_g51, o_g51), (some b6, Obj.cells [(Value.slice a_g51 v_1.length c_g51), (Value.int .i64 (d.sectors.length : Int)), (Value.int .i64 0)].toArray 52), (some b1, Obj.cells [(Value.slice a_d_sectors d.sectors.length c_d_sectors), (Value.slice a_d_pending d.pending.length c_d_pending), (Value.int .i64 d.left), (Value.bool d.stopped)].toArray 25)] := hs69
     have ch74 : Step (ks [(none, (Obj.cells #[] 41)), (some b6, Obj.cells [(Value.slice none 0 0), (Value.int .i64 (d.sectors.length : Int)), (Value.int .i64 0)].toArray 52), (some b1, Obj.cells [(Value.slice a_d_sectors d.sectors.length c_d_sectors), (Value.slice a_d_pending d.pending.length c_d_pending), (Value.int .i64 d.left), (Value.bool d.stopped)].toArray 25)] O) w44 (ks [(k_g51, o_g51), (some b6, Obj.cells [(Value.slice a_g51 v_1.length c_g51), (Value.int .i64 (d.sectors.length : Int)), (Value.int .i64 0)].toArray 52), (some b1, Obj.cells [(Value.slice a_d_sectors d.sectors.length c_d_sectors), (Value.slice a_d_pending d.pending.length c_d_pending), (Value.int .i64 d.left), (Value.bool d.stopped)].toArray 25)] (E62 ++ O)) w65 := hst70; clear hst70
     replace f_g51 : Gs (rSl rU8) 41 w65 (ks [(k_g51, o_g51), (some b6, Obj.cells [(Value.slice a_g51 v_1.length c_g51), (Value.int .i64 (d.sectors.length : Int)), (Value.int .i64 0)].toArray 52), (some b1, Obj.cells [(Value.slice a_d_sectors d.sectors.length c_d_sectors), (Value.slice a_d_pending d.pending.length c_d_pending), (Value.int .i64 d.left), (Value.bool d.stopped)].toArray 25)] (E62 ++ O)) a_g51 c_g51 v_1 k_g51 o_g51 := f_g51
     have hm75 := rng1_s (show rng1 _ _ (xi63 :: rest64) v_1 = some _ from hm); clear hm; obtain ⟨sf72, hsf73, hm⟩ := hm75
     unfold m38_journal_Open_B0 at hm
     replace f_d_sectors := f_d_sectors.step ch74; replace f_d_pending := f_d_pending.step ch74; replace F_y49 := F_y49.step ch74
     replace hx71 : (enc2 (vI .i64) (vC (rSl rU8))) xi63 w65 (ks [(k_g51, o_g51), (some b6, Obj.cells [(Value.slice a_g51 v_1.length c_g51), (Value.int .i64 (d.sectors.length : Int)), (Value.int .i64 0)].toArray 52), (some b1, Obj.cells [(Value.slice a_d_sectors d.sectors.length c_d_sectors), (Value.slice a_d_pending d.pending.length c_d_pending), (Value.int .i64 d.left), (Value.bool d.stopped)].toArray 25)] (E62 ++ O)) vs66 := hx71
     obtain ⟨v76, v77, rfl, h78, h79⟩ := hx71
     obtain ⟨rfl, r_y80⟩ := h78
     obtain ⟨a_y81, c_y81, rfl, f_y81⟩ := un_sl h79
     refine Wp_region ?_
     refine Rg_op rfl (op_assign (v := (Value.slice a_y81 xi63.2.length c_y81)) rfl ?_)
     refine Rg_nil ?_
     refine Exists.intro _ (And.intro hs69 ?_)
     intro w82 z83 RQ84 hz85 hs86 p87 hN88 hX89
     replace f_d_sectors := f_d_sectors.step p87; replace f_d_pending := f_d_pending.step p87; replace F_y49 := F_y49.step p87; replace f_g51 := f_g51.step p87; replace f_y81 := f_y81.step p87; replace ch74 := ch74.trans p87; clear p87 hs69
     refine Wp_block ?_
     refine Wp_reset [] [(2, (Value.pointer (some ⟨b6, 0, none⟩))), (3, (Value.int .i64 0)), (6, (Value.slice a_y81 xi63.2.length c_y81)), (27, v43)] rfl ⟨rfl, rfl, rfl, rfl, trivial⟩ fun ξ90 => ?_
     refine Wp_region ?_
     refine Rg_op rfl (op_fieldAddr ty52 rfl ty22 (by decide) rfl (rfl : _ = (⟨_, 0, none⟩ : Addr)) ?_)
     refine Rg_op rfl (op_load (cs := [(Value.slice a_g51 v_1.length c_g51), (Value.int .i64 (d.sectors.length : Int)), (Value.int .i64 0)]) (i := 1) ty22 hs86 rfl rfl rfl ?_)
     refine Rg_op rfl (op_move (v := (Value.slice a_y81 xi63.2.length c_y81)) rfl ?_)
     refine Rg_op rfl (op_buildSlice (cs := [(Value.slice a_y81 xi63.2.length c_y81)]) (parts := [(0, .tmp 32)]) ty22 ty41 hs86 (by decide) rfl ?_)
     intro b91 w92 hx95 p93 hs94
     replace f_d_sectors := f_d_sectors.step p93; replace f_d_pending := f_d_pending.step p93; replace F_y49 := F_y49.step p93; replace f_g51 := f_g51.step p93; replace f_y81 := f_y81.step p93; replace ch74 := ch74.trans p93; clear p93 hs86
     replace hm := ck_some hm; obtain ⟨hc97, hm⟩ := hm
     refine Rg_op rfl (op_append (q := (rSl rU8)) (i := 1) (xs := v_1) (ys := [xi63.2]) (news := [(Value.slice a_y81 xi63.2.length c_y81)]) ty22 ty41 rfl (by decide) hs94 rfl rfl f_g51 rfl (Src.owned' (len := 1) (hs94.get (i := 0) rfl) rfl) (show Els (rSl rU8) _ _ [(Value.slice a_y81 xi63.2.length c_y81)] [xi63.2] from ⟨_, _, rfl, (mk_sl f_y81), Els.nil⟩) hc97 (by have := hc97; simp only [maxLen]; omega) ?_)
     intro a101 c102 k103 o104 w98 p99 hs100 f105
     replace f_d_sectors := f_d_sectors.step p99; replace f_d_pending := f_d_pending.step p99; replace F_y49 := F_y49.step p99; replace f_y81 := f_y81.step p99; replace ch74 := ch74.trans p99; clear p99 hs94
     have hs106 := hs100.drop 0
     replace f_d_sectors := f_d_sectors.step (hs100.dropS 0)
     replace f_d_pending := f_d_pending.step (hs100.dropS 0)
     replace F_y49 := F_y49.step (hs100.dropS 0)
     replace f_y81 := f_y81.step (hs100.dropS 0)
     replace f105 := f105.step (hs100.dropS 0)
     replace ch74 := ch74.trans (hs100.dropS 0); clear hs100
     refine Rg_op rfl (op_fieldAddr ty52 rfl ty22 (by decide) rfl (rfl : _ = (⟨_, 0, none⟩ : Addr)) ?_)
     refine Rg_op_ (op_store (cs := [(Value.slice a_g51 v_1.length c_g51), (Value.int .i64 (d.sectors.length : Int)), (Value.int .i64 0)]) (vs := [(Value.slice a101 (v_1 ++ [xi63.2]).length c102)]) (cs' := [(Value.slice a101 (v_1 ++ [xi63.2]).length c102), (Value.int .i64 (d.sectors.length : Int)), (Value.int .i64 0)]) (bs' := [(k103, o104), (some b6, Obj.cells [(Value.slice a101 (v_1 ++ [xi63.2]).length c102), (Value.int .i64 (d.sectors.length : Int)), (Value.int .i64 0)].toArray 52), (some b1, Obj.cells [(Value.slice a_d_sectors d.sectors.length c_d_sectors), (Value.slice a_d_pending d.pending.length c_d_pending), (Value.int .i64 d.left), (Value.bool d.stopped)].toArray 25)]) (i := 1) ty22 hs106 rfl rfl rfl rfl rfl (le_lit rfl) rfl rfl rfl ?_)
     intro w107 p108 hs109
     replace f_d_sectors := f_d_sectors.step p108; replace f_d_pending := f_d_pending.step p108; replace F_y49 := F_y49.step p108; replace f_y81 := f_y81.step p108; replace f105 := f105.step p108; replace ch74 := ch74.trans p108; clear p108 hs106
     refine Rg_nil ?_
     exact hN88 ((v_1 ++ [xi63.2]), a101, c102, k103, o104) _ _ hs109 ch74 f105 (jnE1 hsf73 hm)
    ·
     rintro D110 ⟨v_1, a_g51, c_g51, k_g51, o_g51⟩ w111 hs112 hst113 f_g51 hm
     replace hs112 : St ⟨w, [], (D110 :: [])⟩ (D110 :: O) w111 [(k_g51, o_g51), (some b6, Obj.cells [(Value.slice a_g51 v_1.length c_g51), (Value.int .i64 (d.sectors.length : Int)), (Value.int .i64 0)].toArray 52), (some b1, Obj.cells [(Value.slice a_d_sectors d.sectors.length c_d_sectors), (Value.slice a_d_pending d.pending.length c_d_pending), (Value.int .i64 d.left), (Value.bool d.stopped)].toArray 25)] := hs112
     replace hst113 : Step (ks [(none, (Obj.cells #[] 41)), (some b6, Obj.cells [(Value.slice none 0 0), (Value.int .i64 (d.sectors.length : Int)), (Value.int .i64 0)].toArray 52), (some b1, Obj.cells [(Value.slice a_d_sectors d.sectors.length c_d_sectors), (Value.slice a_d_pending d.pending.length c_d_pending), (Value.int .i64 d.left), (Value.bool d.stopped)].toArray 25)] O) w44 (ks [(k_g51, o_g51), (some b6, Obj.cells [(Value.slice a_g51 v_1.length c_g51), (Value.int .i64 (d.sectors.length : Int)), (Value.int .i64 0)].toArray 52), (some b1, Obj.cells [(Value.slice a_d_sectors d.sectors.length c_d_sectors), (Value.slice a_d_pending d.pending.length c_d_pending), (Value.int .i64 d.left), (Value.bool d.stopped)].toArray 25)] (D110 :: O)) w111 := hst113
     replace f_g51 : Gs (rSl rU8) 41 w111 (ks [(k_g51, o_g51), (some b6, Obj.cells [(Value.slice a_g51 v_1.length c_g51), (Value.int .i64 (d.sectors.length : Int)), (Value.int .i64 0)].toArray 52), (some b1, Obj.cells [(Value.slice a_d_sectors d.sectors.length c_d_sectors), (Value.slice a_d_pending d.pending.length c_d_pending), (Value.int .i64 d.left), (Value.bool d.stopped)].toArray 25)] (D110 :: O)) a_g51 c_g51 v_1 k_g51 o_g51 := f_g51
     replace hm := rng1_z (show rng1 _ _ [] v_1 = some _ from hm)
     replace hm := jnE1 hk53 (show k52 v_1 = some _ from hm)
     replace f_d_sectors := f_d_sectors.step hst113; replace f_d_pending := f_d_pending.step hst113; replace F_y49 := F_y49.step hst113; clear hst113 hs59
     refine Wp_seq ?_
     obtain ⟨hs115, p116⟩ := hs112.sub (bs' := [(k_g51, o_g51), (some b6, Obj.cells [(Value.slice a_g51 v_1.length c_g51), (Value.int .i64 (d.sectors.length : Int)), (Value.int .i64 0)].toArray 52)]) (.cons_cons _ (.cons_cons _ (.cons _ List.Sublist.slnil)))
     clear f_d_sectors f_d_pending F_y49
     replace f_g51 := f_g51.step p116; clear p116 hs112
     refine Wp_region ?_
     refine Rg_op rfl (op_fieldAddr ty52 rfl ty22 (by decide) rfl (rfl : _ = (⟨_, 0, none⟩ : Addr)) ?_)
     refine Rg_op rfl (op_load (cs := [(Value.slice a_g51 v_1.length c_g51), (Value.int .i64 (d.sectors.length : Int)), (Value.int .i64 0)]) (i := 1) ty22 hs115 rfl rfl rfl ?_)
     refine Rg_op rfl (op_len Try.underlying22 rfl ?_)
     have rl117 := inK_lenG f_g51
     refine Rg_op rfl (op_fieldAddr ty52 rfl ty3 (by decide) rfl (rfl : _ = (⟨_, 2, none⟩ : Addr)) ?_)
     refine Rg_op_ (op_store (cs := [(Value.slice a_g51 v_1.length c_g51), (Value.int .i64 (d.sectors.length : Int)), (Value.int .i64 0)]) (vs := [(Value.int .i64 (v_1.length : Int))]) (cs' := [(Value.slice a_g51 v_1.length c_g51), (Value.int .i64 (d.sectors.length : Int)), (Value.int .i64 (v_1.length : Int))]) (bs' := [(k_g51, o_g51), (some b6, Obj.cells [(Value.slice a_g51 v_1.length c_g51), (Value.int .i64 (d.sectors.length : Int)), (Value.int .i64 (v_1.length : Int))].toArray 52)]) (i := 1) ty3 hs115 rfl rfl rfl rfl rfl (le_lit rfl) rfl rfl rfl ?_)
     intro w118 p119 hs120
     replace f_g51 := f_g51.step p119; clear p119 hs115
     refine Rg_nil ?_
     refine Wp_seq ?_
     refine Wp_region ?_
     refine Rg_op rfl (op_loadA (cs := [(Value.slice a_g51 v_1.length c_g51), (Value.int .i64 (d.sectors.length : Int)), (Value.int .i64 (v_1.length : Int))]) (vs := [(Value.slice a_g51 v_1.length c_g51), (Value.int .i64 (d.sectors.length : Int)), (Value.int .i64 (v_1.length : Int))]) (i := 1) ty52 hs120 rfl rfl rfl rfl ?_)
     refine Rg_op_ (op_store (cs := [(Value.slice a_g51 v_1.length c_g51), (Value.int .i64 (d.sectors.length : Int)), (Value.int .i64 (v_1.length : Int))]) (vs := [(Value.slice a_g51 v_1.length c_g51), (Value.int .i64 (d.sectors.length : Int)), (Value.int .i64 (v_1.length : Int))]) (cs' := [(Value.slice a_g51 v_1.length c_g51), (Value.int .i64 (d.sectors.length : Int)), (Value.int .i64 (v_1.length : Int))]) (bs' := [(k_g51, o_g51), (some b6, Obj.cells [(Value.slice a_g51 v_1.length c_g51), (Value.int .i64 (d.sectors.length : Int)), (Value.int .i64 (v_1.length : Int))].toArray 52)]) (i := 1) ty52 hs120 rfl rfl rfl rfl rfl (le_lit rfl) rfl rfl rfl ?_)
     intro w121 p122 hs123
     replace f_g51 := f_g51.step p122; clear p122 hs120
     refine Rg_op rfl (op_assign (v := (Value.int .i64 0)) rfl ?_)
     refine Rg_nil ?_
     refine Wp_ret ?_
     obtain ⟨w124, hcl125, hs126, p127⟩ := St.close hs123
     replace f_g51 := f_g51.step p127; clear p127 hs123
     obtain ⟨hs129, p130, f128⟩ := Gs.publish (i := 0) hs126 rfl f_g51
     clear p130 hs126
     have hz := (step_all hs129).trans (Step.sub (O' := O) (fun k hk => by simp [hk]))
     replace f128 := f128.step hz
     refine ⟨_, hcl125, [(Value.agg [(Value.slice a_g51 v_1.length c_g51), (Value.int .i64 (d.sectors.length : Int)), (Value.int .i64 (v_1.length : Int))].toArray), (Value.int .i64 0)], ⟨resA (cs := [(Value.slice a_g51 v_1.length c_g51), (Value.int .i64 (d.sectors.length : Int)), (Value.int .i64 (v_1.length : Int))]) (vs := [(Value.slice a_g51 v_1.length c_g51), (Value.int .i64 (d.sectors.length : Int)), (Value.int .i64 (v_1.length : Int))]) ty52 (i := 0) hs129 rfl rfl rfl rfl, rfl, trivial⟩, hs129.ext, ?_⟩
     exact Vr.eq (a := (vT2 (vA rXJournal) (vI .i64))) (x := ((⟨v_1, (d.sectors.length : Int), (v_1.length : Int)⟩ : XJournal), 0)) (mkT2 (mkA (mkVia (mk_pair (mk_sl f128) (mk_pair (mk_int rl38) (mk_int rl117))))) ⟨rfl, (show InK .i64 0 from by decide)⟩) (Option.some.inj hm)
    · intro _ _ _ _ h; simp at h

end Go.Fx



set_option linter.unusedVariables false
set_option linter.unusedSimpArgs false
set_option maxRecDepth 100000
set_option maxHeartbeats 0
namespace Go.Fx
open Go Go.RowKit Go.Proofs
def m48_disk_has (d : XDisk) (at_ : Int) : Option Bool :=
 bif (decide (0 ≤ at_)) then
  some (decide (at_ < (d.sectors.length : Int)))
 else
  some false

theorem c48_disk_has {w : World} {O : List Nat} {d : XDisk} {at_ : Int} {a_d_sectors : Option Addr} {c_d_sectors : Nat} {a_d_pending : Option Addr} {c_d_pending : Nat} (hO : ∀ k ∈ O, k < w.heap.size) (f_d_sectors : SlR (rSl rU8) w O a_d_sectors c_d_sectors d.sectors) (f_d_pending : SlR rXWrite w O a_d_pending c_d_pending d.pending) (r_d_left : InK .i64 d.left) (r_at_ : InK .i64 at_) {x : Bool} (hm : m48_disk_has d at_ = some x) :
  Ok Try.prog 48 [(Value.agg [(Value.slice a_d_sectors d.sectors.length c_d_sectors), (Value.slice a_d_pending d.pending.length c_d_pending), (Value.int .i64 d.left), (Value.bool d.stopped)].toArray), (Value.int .i64 at_)] w O vB x := by
 unfold m48_disk_has at hm
 refine Fn_of_Wp (n := 14) (xs := [.tmp 4]) Try.func48 rfl Try.ntmps48 Try.results48 rfl ?_
 have hs := St.start hO
 refine Wp_seq ?_
 refine Wp_region ?_
 refine Rg_op rfl (op_box (cs := [(Value.slice a_d_sectors d.sectors.length c_d_sectors), (Value.slice a_d_pending d.pending.length c_d_pending), (Value.int .i64 d.left), (Value.bool d.stopped)]) hs rfl rfl ?_)
 intro b1 w2 _ p3 hs4
 replace f_d_sectors := f_d_sectors.step p3; replace f_d_pending := f_d_pending.step p3; clear p3
 refine Rg_op rfl (op_assign (v := (Value.bool false)) rfl ?_)
 refine Rg_nil ?_
 refine Wp_seq ?_
 refine Wp_region ?_
 refine Rg_op rfl (op_move (v := (Value.int .i64 at_)) rfl ?_)
 refine Rg_op rfl (op_geq rfl rfl ?_)
 refine Rg_op rfl (op_move (v := (Value.bool (decide (0 ≤ at_)))) rfl ?_)
 refine Rg_case (fun hg6 => ?_) (fun hg6 => ?_)
 ·
  replace hm := bif_t hm hg6
  refine Rg_opg rfl rfl rfl (op_move (v := (Value.int .i64 at_)) rfl ?_)
  refine Rg_opg rfl rfl rfl (op_fieldAddr ty25 rfl ty22 (by decide) rfl (rfl : _ = (⟨_, 0, none⟩ : Addr)) ?_)
  refine Rg_opg rfl rfl rfl (op_load (cs := [(Value.slice a_d_sectors d.sectors.length c_d_sectors), (Value.slice a_d_pending d.pending.length c_d_pending), (Value.int .i64 d.left), (Value.bool d.stopped)]) (i := 0) ty22 hs4 rfl rfl rfl ?_)
  refine Rg_opg rfl rfl rfl (op_len Try.underlying22 rfl ?_)
  have rl7 := inK_len f_d_sectors
  refine Rg_opg rfl rfl rfl (op_lss rfl rfl ?_)
  refine Rg_op rfl (op_pick_t (v := (Value.bool (decide (at_ < (d.sectors.length : Int))))) rfl rfl ?_)
  refine Rg_op rfl (op_assign (v := (Value.bool (decide (at_ < (d.sectors.length : Int))))) rfl ?_)
  refine Rg_nil ?_
  refine Wp_ret ?_
  have hz := step_all hs4
  replace f_d_sectors := f_d_sectors.step hz; replace f_d_pending := f_d_pending.step hz
  refine ⟨_, (show Closes [] _ _ from rfl), [(Value.bool (decide (at_ < (d.sectors.length : Int))))], ⟨rfl, trivial⟩, hs4.ext, ?_⟩
  exact Vr.eq (a := vB) (x := (decide (at_ < (d.sectors.length : Int)))) rfl (Option.some.inj hm)
 ·
  replace hm := bif_f hm hg6
  iterate 5 refine Rg_opx rfl (asB_ne rfl rfl) rfl ?_
  refine Rg_op rfl (op_pick_f (v := (Value.bool false)) rfl rfl ?_)
  refine Rg_op rfl (op_assign (v := (Value.bool false)) rfl ?_)
  refine Rg_nil ?_
  refine Wp_ret ?_
  have hz := step_all hs4
  replace f_d_sectors := f_d_sectors.step hz; replace f_d_pending := f_d_pending.step hz
  refine ⟨_, (show Closes [] _ _ from rfl), [(Value.bool false)], ⟨rfl, trivial⟩, hs4.ext, ?_⟩
  exact Vr.eq (a := vB) (x := false) rfl (Option.some.inj hm)

end Go.Fx



set_option linter.unusedVariables false
set_option linter.unusedSimpArgs false
set_option maxRecDepth 100000
set_option maxHeartbeats 0
namespace Go.Fx
open Go Go.RowKit Go.Proofs
def m49_api_Write_ (s : List XWrite) : Option (List XWrite) :=
 ck ((0 : Int) ≤ (s.length : Int) ∧ (s.length : Int) ≤ (s.length : Int)) <|
 some ((s.drop 0).take (s.length - 0))

theorem c49_api_Write_ {w : World} {O : List Nat} {s : List XWrite} {a_s : Option Addr} {c_s : Nat} (hO : ∀ k ∈ O, k < w.heap.size) (f_s : SlR rXWrite w O a_s c_s s) {x : (List XWrite)} (hm : m49_api_Write_ s = some x) :
  Ok Try.prog 49 [(Value.slice a_s s.length c_s)] w O (vCl rXWrite) x := by
 unfold m49_api_Write_ at hm
 refine Fn_of_Wp (n := 9) (xs := [.tmp 2]) Try.func49 rfl Try.ntmps49 Try.results49 rfl ?_
 have hs := St.start hO
 refine Wp_seq ?_
 refine Wp_region ?_
 refine Rg_op rfl (op_assign (v := (Value.slice none 0 0)) rfl ?_)
 refine Rg_nil ?_
 refine Wp_seq ?_
 refine Wp_region ?_
 refine Rg_op rfl (op_move (v := (Value.slice a_s s.length c_s)) rfl ?_)
 refine Rg_op rfl (op_move (v := (Value.slice a_s s.length c_s)) rfl ?_)
 refine Rg_op rfl (op_len Try.underlying23 rfl ?_)
 have rl1 := inK_len f_s
 refine Rg_op rfl (op_move (v := (Value.slice a_s s.length c_s)) rfl ?_)
 refine Rg_op rfl (op_len Try.underlying23 rfl ?_)
 have rl2 := inK_len f_s
 replace hm := ck_some hm; obtain ⟨hc3, hm⟩ := hm
 refine Rg_op rfl (op_slice (q := rXWrite) (l := 0) (h := s.length) (m := s.length) ty23 ty73 rfl f_s rfl rfl (bndI rfl (by omega)) (bndI rfl (by omega)) (by decide) (by omega) (by omega) (by have h_ : s.length ≤ c_s := f_s.le; omega) (by have h_ : s.length ≤ c_s := f_s.le; omega) ?_)
 intro a4 f5
 refine Rg_op rfl (op_assign (v := (Value.slice a4 ((s.drop 0).take (s.length - 0)).length (s.length - 0))) rfl ?_)
 refine Rg_nil ?_
 refine Wp_ret ?_
 have hz := step_all hs
 replace f_s := f_s.step hz; replace f5 := f5.step hz
 refine ⟨_, (show Closes [] _ _ from rfl), [(Value.slice a4 ((s.drop 0).take (s.length - 0)).length (s.length - 0))], ⟨rfl, trivial⟩, hs.ext, ?_⟩
 exact Vr.eq (a := (vCl rXWrite)) (x := ((s.drop 0).take (s.length - 0))) (mkCl f5 (by simp)) (Option.some.inj hm)

end Go.Fx



set_option linter.unusedVariables false
set_option linter.unusedSimpArgs false
set_option maxRecDepth 100000
set_option maxHeartbeats 0
namespace Go.Fx
open Go Go.RowKit Go.Proofs
def m50_api_Write_ (s : List XWrite) : Option (List XWrite) :=
 ck ((([] : List XWrite).length + s.length) * 32 ≤ 140737488355328) <|
 some (([] : List XWrite) ++ s)

theorem g50_api_Write_ {w : World} {O : List Nat} {s : List XWrite} {a_s : Option Addr} {c_s : Nat} (hO : ∀ k ∈ O, k < w.heap.size) (f_s : SlR rXWrite w O a_s c_s s) {x : (List XWrite)} (hm : m50_api_Write_ s = some x) :
  OkG Try.prog 50 [(Value.slice a_s s.length c_s)] w O rXWrite 73 x := by
 unfold m50_api_Write_ at hm
 refine Fn_of_Wp (n := 8) (xs := [.tmp 2]) Try.func50 rfl Try.ntmps50 Try.results50 rfl ?_
 have hs := St.start hO
 refine Wp_seq ?_
 refine Wp_region ?_
 refine Rg_op rfl (op_assign (v := (Value.slice none 0 0)) rfl ?_)
 refine Rg_nil ?_
 refine Wp_seq ?_
 refine Wp_seq ?_
 refine Wp_region ?_
 refine Rg_op rfl (op_move (v := (Value.slice a_s s.length c_s)) rfl ?_)
 refine Rg_op rfl (op_eqnil Try.underlying23 rfl rfl ?_)
 refine Rg_nil ?_
 rcases a_s with _ | ad1
 ·
  have hnil2 := (f_s.nil rfl).1
  refine Wp_cond_t rfl ?_
  refine Wp_seq ?_
  clear f_s
  refine Wp_region ?_
  refine Rg_op rfl (op_assign (v := (Value.slice none 0 0)) rfl ?_)
  refine Rg_nil ?_
  refine Wp_ret ?_
  refine ⟨_, (show Closes [] _ _ from rfl), [(Value.slice none 0 0)], ⟨rfl, trivial⟩, hs.ext, ?_⟩
  exact OkG.mkNil (by simp [ck, hnil2] at hm; first | exact hm | (subst hm; simp [hnil2]) | simpa using hm)
 ·
  refine Wp_cond_f rfl ?_
  refine Wp_skip ?_
  refine Wp_seq ?_
  refine Wp_region ?_
  refine Rg_op rfl (op_buildSlice (cs := []) (parts := []) ty23 ty73 hs (by decide) rfl ?_)
  intro b3 w4 hx7 p5 hs6
  replace f_s := f_s.step p5; clear p5
  refine Rg_op rfl (op_move (v := (Value.slice (some ad1) s.length c_s)) rfl ?_)
  have f9 := Gs.of_cells (p := rXWrite) (e := 73) (bl := b3) (c := 0) (w := w4) (O := ks [(some b3, Obj.cells [].toArray 73)] O) (show Els rXWrite _ _ [] [] from Els.nil) rfl (le_lit rfl)
  replace hm := ck_some hm; obtain ⟨hc10, hm⟩ := hm
  obtain ⟨ns11, he12, hr13⟩ := f_s.src
  refine Rg_op rfl (op_append (q := rXWrite) (i := 0) (xs := ([] : List XWrite)) (ys := s) (news := ns11) ty23 ty73 rfl (by decide) hs6 rfl rfl f9 rfl hr13 he12 hc10 (by have := hc10; simp only [maxLen]; omega) ?_)
  intro a17 c18 k19 o20 w14 p15 hs16 f21
  replace f_s := f_s.step p15; clear p15 hs6
  refine Rg_op rfl (op_assign (v := (Value.slice a17 (([] : List XWrite) ++ s).length c18)) rfl ?_)
  refine Rg_nil ?_
  refine Wp_ret ?_
  refine ⟨_, (show Closes [] _ _ from rfl), [(Value.slice a17 (([] : List XWrite) ++ s).length c18)], ⟨rfl, trivial⟩, hs16.ext, ?_⟩
  exact OkG.mk (i := 0) hs16 rfl f21 (Option.some.inj hm)
end Go.Fx



set_option linter.unusedVariables false
set_option linter.unusedSimpArgs false
set_option maxRecDepth 100000
set_option maxHeartbeats 0
namespace Go.Fx
open Go Go.RowKit Go.Proofs
def m23_disk_Write (d : XDisk) (at_ : Int) (b : List UInt8) : Option (XDisk × Int) :=
 jn (fun (v_1 : Bool) =>
  bif v_1 then
   some ((⟨([] : List (List UInt8)), ([] : List XWrite), 0, false⟩ : XDisk), 440)
  else
   bif (decide (128 < (b.length : Int))) then
    some ((⟨([] : List (List UInt8)), ([] : List XWrite), 0, false⟩ : XDisk), 1)
   else
    bif (decide ((d.pending.length : Int) = 4096)) then
     some ((⟨([] : List (List UInt8)), ([] : List XWrite), 0, false⟩ : XDisk), 2)
    else
     ck ((0 : Int) ≤ (128 : Int) ∧ (128 : Int) ≤ (128 : Int) ∧ (1 : Int) * 128 ≤ 281474976710656 ∧ (128 : Int) ≤ 281474976710656) <|
     ck (0 < (List.replicate 128 (0 : UInt8)).length) <|
     (m50_api_Write_ d.pending).bind fun write_1 =>
     (m49_api_Write_ write_1).bind fun write_2 =>
     ck ((write_2.length + [(⟨at_, (b.take (List.replicate 128 (0 : UInt8)).length ++ (List.replicate 128 (0 : UInt8)).drop b.length)⟩ : XWrite)].length) * 32 ≤ 140737488355328) <|
     some ((⟨d.sectors, (write_2 ++ [(⟨at_, (b.take (List.replicate 128 (0 : UInt8)).length ++ (List.replicate 128 (0 : UInt8)).drop b.length)⟩ : XWrite)]), d.left, d.stopped⟩ : XDisk), 0))
 (fun k13 =>
  (m47_disk_runs d).bind fun runs_1 =>
  bif (!runs_1) then
   k13 true
  else
   (m48_disk_has d at_).bind fun has_1 =>
   k13 (!has_1))

theorem c23_disk_Write {w : World} {O : List Nat} {d : XDisk} {at_ : Int} {b : List UInt8} {a_d_sectors : Option Addr} {c_d_sectors : Nat} {a_d_pending : Option Addr} {c_d_pending : Nat} {a_b : Option Addr} {c_b : Nat} (hO : ∀ k ∈ O, k < w.heap.size) (f_d_sectors : SlR (rSl rU8) w O a_d_sectors c_d_sectors d.sectors) (f_d_pending : SlR rXWrite w O a_d_pending c_d_pending d.pending) (r_d_left : InK .i64 d.left) (r_at_ : InK .i64 at_) (f_b : SlR rU8 w O a_b c_b b) {x : XDisk × Int} (hm : m23_disk_Write d at_ b = some x) :
  Ok Try.prog 23 [(Value.agg [(Value.slice a_d_sectors d.sectors.length c_d_sectors), (Value.slice a_d_pending d.pending.length c_d_pending), (Value.int .i64 d.left), (Value.bool d.stopped)].toArray), (Value.int .i64 at_), (Value.slice a_b b.length c_b)] w O (vT2 (vA rXDisk) (vI .i64)) x := by
 unfold m23_disk_Write at hm
 refine Fn_of_Wp (n := 46) (xs := [.cell 6 25, .tmp 7]) Try.func23 rfl Try.ntmps23 Try.results23 rfl ?_
 have hs := St.start hO
 refine Wp_seq ?_
 refine Wp_region ?_
 refine Rg_op rfl (op_box (cs := [(Value.slice a_d_sectors d.sectors.length c_d_sectors), (Value.slice a_d_pending d.pending.length c_d_pending), (Value.int .i64 d.left), (Value.bool d.stopped)]) hs rfl rfl ?_)
 intro b1 w2 _ p3 hs4
 replace f_d_sectors := f_d_sectors.step p3; replace f_d_pending := f_d_pending.step p3; replace f_b := f_b.step p3; clear p3
 refine Rg_op rfl (op_alloc ty25 hs4 ?_)
 intro b6 w7 _ p8 hs9
 replace f_d_sectors := f_d_sectors.step p8; replace f_d_pending := f_d_pending.step p8; replace f_b := f_b.step p8; clear p8 hs4
 refine Rg_op rfl (op_assign (v := (Value.int .i64 0)) rfl ?_)
 refine Rg_nil ?_
 refine Wp_seq ?_
 refine Wp_block ?_
 refine Wp_reset [] [(1, (Value.int .i64 at_)), (2, (Value.slice a_b b.length c_b)), (3, (Value.pointer (some ⟨b1, 0, none⟩))), (6, (Value.pointer (some ⟨b6, 0, none⟩)))] rfl ⟨rfl, rfl, rfl, rfl, trivial⟩ fun ξ11 => ?_
 replace hm := jn_elim hm; obtain ⟨k13, hk14, hm⟩ := hm
 refine Wp_seqJ [9, 10, 11, 12, 13, 14, 15, 16, 17, 18] (fun fr w' => ∃ (v_1 : Bool) (Ebs : Ents), Ebs = [(some b6, Obj.cells [(Value.slice none 0 0), (Value.slice none 0 0), (Value.int .i64 0), (Value.bool false)].toArray 25), (some b1, Obj.cells [(Value.slice a_d_sectors d.sectors.length c_d_sectors), (Value.slice a_d_pending d.pending.length c_d_pending), (Value.int .i64 d.left), (Value.bool d.stopped)].toArray 25)] ∧ fr [] [(9, (Value.bool v_1))] ∧ Step (ks [(some b6, Obj.cells [(Value.slice none 0 0), (Value.slice none 0 0), (Value.int .i64 0), (Value.bool false)].toArray 25), (some b1, Obj.cells [(Value.slice a_d_sectors d.sectors.length c_d_sectors), (Value.slice a_d_pending d.pending.length c_d_pending), (Value.int .i64 d.left), (Value.bool d.stopped)].toArray 25)] O) w7 (ks Ebs O) w' ∧ St ⟨w, [], []⟩ O w' Ebs ∧ k13 v_1 = some x) ?_ ?_
 ·
  rintro ρ20 w16 ⟨v_1, Ebs, hEbs, hfr19, hst18, hs17, hm⟩
  replace hm := jnE1 hk14 hm
  subst hEbs; rw [hfr19.eq]; clear hfr19
  replace f_d_sectors := f_d_sectors.step hst18; replace f_d_pending := f_d_pending.step hst18; replace f_b := f_b.step hst18; clear hst18 hs9
  refine Wp_cond rfl (fun hc21 => ?_) (fun hc21 => ?_)
  ·
   replace hm := bif_t hm hc21
   refine Wp_seq ?_
   obtain ⟨hs22, p23⟩ := hs17.sub (bs' := [(some b6, Obj.cells [(Value.slice none 0 0), (Value.slice none 0 0), (Value.int .i64 0), (Value.bool false)].toArray 25)]) (.cons_cons _ (.cons _ List.Sublist.slnil))
   clear f_d_sectors f_d_pending f_b
   clear p23 hs17
   refine Wp_region ?_
   refine Rg_op rfl (op_loadA (cs := [(Value.slice none 0 0), (Value.slice none 0 0), (Value.int .i64 0), (Value.bool false)]) (vs := [(Value.slice none 0 0), (Value.slice none 0 0), (Value.int .i64 0), (Value.bool false)]) (i := 0) ty25 hs22 rfl rfl rfl rfl ?_)
   refine Rg_op_ (op_store (cs := [(Value.slice none 0 0), (Value.slice none 0 0), (Value.int .i64 0), (Value.bool false)]) (vs := [(Value.slice none 0 0), (Value.slice none 0 0), (Value.int .i64 0), (Value.bool false)]) (cs' := [(Value.slice none 0 0), (Value.slice none 0 0), (Value.int .i64 0), (Value.bool false)]) (bs' := [(some b6, Obj.cells [(Value.slice none 0 0), (Value.slice none 0 0), (Value.int .i64 0), (Value.bool false)].toArray 25)]) (i := 0) ty25 hs22 rfl rfl rfl rfl rfl (le_lit rfl) rfl rfl rfl ?_)
   intro w24 p25 hs26
   clear p25 hs22
   refine Rg_op rfl (op_assign (v := (Value.int .i64 440)) rfl ?_)
   refine Rg_nil ?_
   refine Wp_ret ?_
   have hz := step_all hs26
   refine ⟨_, (show Closes [] _ _ from rfl), [(Value.agg [(Value.slice none 0 0), (Value.slice none 0 0), (Value.int .i64 0), (Value.bool false)].toArray), (Value.int .i64 440)], ⟨resA (cs := [(Value.slice none 0 0), (Value.slice none 0 0), (Value.int .i64 0), (Value.bool false)]) (vs := [(Value.slice none 0 0), (Value.slice none 0 0), (Value.int .i64 0), (Value.bool false)]) ty25 (i := 0) hs26 rfl rfl rfl rfl, rfl, trivial⟩, hs26.ext, ?_⟩
   exact Vr.eq (a := (vT2 (vA rXDisk) (vI .i64))) (x := ((⟨([] : List (List UInt8)), ([] : List XWrite), 0, false⟩ : XDisk), 440)) (mkT2 (mkA (mkVia (mk_pair (mk_sl SlR.nil_) (mk_pair (mk_sl SlR.nil_) (mk_pair (mk_int (show InK .i64 0 from by decide)) mkBool))))) ⟨rfl, (show InK .i64 440 from by decide)⟩) (Option.some.inj hm)
  ·
   replace hm := bif_f hm hc21
   refine Wp_seq ?_
   refine Wp_region ?_
   refine Rg_op rfl (op_move (v := (Value.slice a_b b.length c_b)) rfl ?_)
   refine Rg_op rfl (op_len Try.underlying41 rfl ?_)
   have rl27 := inK_len f_b
   refine Rg_op rfl (op_gtr rfl rfl ?_)
   refine Rg_op rfl (op_assign (v := (Value.bool (decide (128 < (b.length : Int))))) rfl ?_)
   refine Rg_nil ?_
   refine Wp_cond rfl (fun hc28 => ?_) (fun hc28 => ?_)
   ·
    replace hm := bif_t hm hc28
    refine Wp_seq ?_
    obtain ⟨hs29, p30⟩ := hs17.sub (bs' := [(some b6, Obj.cells [(Value.slice none 0 0), (Value.slice none 0 0), (Value.int .i64 0), (Value.bool false)].toArray 25)]) (.cons_cons _ (.cons _ List.Sublist.slnil))
    clear f_d_sectors f_d_pending f_b
    clear p30 hs17
    refine Wp_region ?_
    refine Rg_op rfl (op_loadA (cs := [(Value.slice none 0 0), (Value.slice none 0 0), (Value.int .i64 0), (Value.bool false)]) (vs := [(Value.slice none 0 0), (Value.slice none 0 0), (Value.int .i64 0), (Value.bool false)]) (i := 0) ty25 hs29 rfl rfl rfl rfl ?_)
    refine Rg_op_ (op_store (cs := [(Value.slice none 0 0), (Value.slice none 0 0), (Value.int .i64 0), (Value.bool false)]) (vs := [(Value.slice none 0 0), (Value.slice none 0 0), (Value.int .i64 0), (Value.bool false)]) (cs' := [(Value.slice none 0 0), (Value.slice none 0 0), (Value.int .i64 0), (Value.bool false)]) (bs' := [(some b6, Obj.cells [(Value.slice none 0 0), (Value.slice none 0 0), (Value.int .i64 0), (Value.bool false)].toArray 25)]) (i := 0) ty25 hs29 rfl rfl rfl rfl rfl (le_lit rfl) rfl rfl rfl ?_)
    intro w31 p32 hs33
    clear p32 hs29
    refine Rg_op rfl (op_assign (v := (Value.int .i64 1)) rfl ?_)
    refine Rg_nil ?_
    refine Wp_ret ?_
    have hz := step_all hs33
    refine ⟨_, (show Closes [] _ _ from rfl), [(Value.agg [(Value.slice none 0 0), (Value.slice none 0 0), (Value.int .i64 0), (Value.bool false)].toArray), (Value.int .i64 1)], ⟨resA (cs := [(Value.slice none 0 0), (Value.slice none 0 0), (Value.int .i64 0), (Value.bool false)]) (vs := [(Value.slice none 0 0), (Value.slice none 0 0), (Value.int .i64 0), (Value.bool false)]) ty25 (i := 0) hs33 rfl rfl rfl rfl, rfl, trivial⟩, hs33.ext, ?_⟩
    exact Vr.eq (a := (vT2 (vA rXDisk) (vI .i64))) (x := ((⟨([] : List (List UInt8)), ([] : List XWrite), 0, false⟩ : XDisk), 1)) (mkT2 (mkA (mkVia (mk_pair (mk_sl SlR.nil_) (mk_pair (mk_sl SlR.nil_) (mk_pair (mk_int (show InK .i64 0 from by decide)) mkBool))))) ⟨rfl, (show InK .i64 1 from by decide)⟩) (Option.some.inj hm)
   ·
    replace hm := bif_f hm hc28
    refine Wp_seq ?_
    refine Wp_region ?_
    refine Rg_op rfl (op_fieldAddr ty25 rfl ty23 (by decide) rfl (rfl : _ = (⟨_, 1, none⟩ : Addr)) ?_)
    refine Rg_op rfl (op_load (cs := [(Value.slice a_d_sectors d.sectors.length c_d_sectors), (Value.slice a_d_pending d.pending.length c_d_pending), (Value.int .i64 d.left), (Value.bool d.stopped)]) (i := 1) ty23 hs17 rfl rfl rfl ?_)
    refine Rg_op rfl (op_len Try.underlying23 rfl ?_)
    have rl34 := inK_len f_d_pending
    refine Rg_op rfl (op_eql rfl rfl ?_)
    refine Rg_op rfl (op_assign (v := (Value.bool (decide ((d.pending.length : Int) = 4096)))) rfl ?_)
    refine Rg_nil ?_
    refine Wp_cond rfl (fun hc35 => ?_) (fun hc35 => ?_)
    ·
     replace hm := bif_t hm hc35
     refine Wp_seq ?_
     obtain ⟨hs36, p37⟩ := hs17.sub (bs' := [(some b6, Obj.cells [(Value.slice none 0 0), (Value.slice none 0 0), (Value.int .i64 0), (Value.bool false)].toArray 25)]) (.cons_cons _ (.cons _ List.Sublist.slnil))
     clear f_d_sectors f_d_pending f_b
     clear p37 hs17
     refine Wp_region ?_
     refine Rg_op rfl (op_loadA (cs := [(Value.slice none 0 0), (Value.slice none 0 0), (Value.int .i64 0), (Value.bool false)]) (vs := [(Value.slice none 0 0), (Value.slice none 0 0), (Value.int .i64 0), (Value.bool false)]) (i := 0) ty25 hs36 rfl rfl rfl rfl ?_)
     refine Rg_op_ (op_store (cs := [(Value.slice none 0 0), (Value.slice none 0 0), (Value.int .i64 0), (Value.bool false)]) (vs := [(Value.slice none 0 0), (Value.slice none 0 0), (Value.int .i64 0), (Value.bool false)]) (cs' := [(Value.slice none 0 0), (Value.slice none 0 0), (Value.int .i64 0), (Value.bool false)]) (bs' := [(some b6, Obj.cells [(Value.slice none 0 0), (Value.slice none 0 0), (Value.int .i64 0), (Value.bool false)].toArray 25)]) (i := 0) ty25 hs36 rfl rfl rfl rfl rfl (le_lit rfl) rfl rfl rfl ?_)
     intro w38 p39 hs40
     clear p39 hs36
     refine Rg_op rfl (op_assign (v := (Value.int .i64 2)) rfl ?_)
     refine Rg_nil ?_
     refine Wp_ret ?_
     have hz := step_all hs40
     refine ⟨_, (show Closes [] _ _ from rfl), [(Value.agg [(Value.slice none 0 0), (Value.slice none 0 0), (Value.int .i64 0), (Value.bool false)].toArray), (Value.int .i64 2)], ⟨resA (cs := [(Value.slice none 0 0), (Value.slice none 0 0), (Value.int .i64 0), (Value.bool false)]) (vs := [(Value.slice none 0 0), (Value.slice none 0 0), (Value.int .i64 0), (Value.bool false)]) ty25 (i := 0) hs40 rfl rfl rfl rfl, rfl, trivial⟩, hs40.ext, ?_⟩
     exact Vr.eq (a := (vT2 (vA rXDisk) (vI .i64))) (x := ((⟨([] : List (List UInt8)), ([] : List XWrite), 0, false⟩ : XDisk), 2)) (mkT2 (mkA (mkVia (mk_pair (mk_sl SlR.nil_) (mk_pair (mk_sl SlR.nil_) (mk_pair (mk_int (show InK .i64 0 from by decide)) mkBool))))) ⟨rfl, (show InK .i64 2 from by decide)⟩) (Option.some.inj hm)
    ·
     replace hm := bif_f hm hc35
     refine Wp_skip ?_
     refine Wp_seq ?_
     refine Wp_region ?_
     replace hm := ck_some hm; obtain ⟨hc41, hm⟩ := hm
     refine Rg_op rfl (op_makeSliceI (q := rU8) (v := (Value.int .u8 0)) (x0 := (0 : UInt8)) ty41 ty5 hs17 rfl rfl hc41 rfl (fun _ _ => (mk_u8 (show InK .u8 0 from by decide))) ?_)
     intro b42 w43 hx47 p44 hs45 f46
     replace f_d_sectors := f_d_sectors.step p44; replace f_d_pending := f_d_pending.step p44; replace f_b := f_b.step p44; clear p44 hs17
     refine Rg_op rfl (op_assign (v := (Value.slice (some ⟨b42, 0, none⟩) (List.replicate 128 (0 : UInt8)).length 128)) rfl ?_)
     refine Rg_nil ?_
     refine Wp_seq ?_
     refine Wp_region ?_
     refine Rg_op rfl (op_move (v := (Value.slice (some ⟨b42, 0, none⟩) (List.replicate 128 (0 : UInt8)).length 128)) rfl ?_)
     refine Rg_op rfl (op_move (v := (Value.slice a_b b.length c_b)) rfl ?_)
     replace hm := ck_some hm; obtain ⟨hc49, hm⟩ := hm
     refine Rg_op rfl (op_copyG (p := rU8) (i := 0) ty41 ty5 rfl hs45 rfl rfl f46 rfl f_b hc49 ?_)
     intro o53 w50 p51 hs52 f54
     replace f_d_sectors := f_d_sectors.step p51; replace f_d_pending := f_d_pending.step p51; replace f_b := f_b.step p51; clear p51 hs45
     refine Rg_nil ?_
     refine Wp_seq ?_
     clear f_b
     refine Wp_region ?_
     refine Rg_op rfl (op_fieldAddr ty25 rfl ty23 (by decide) rfl (rfl : _ = (⟨_, 1, none⟩ : Addr)) ?_)
     refine Rg_op rfl (op_load (cs := [(Value.slice a_d_sectors d.sectors.length c_d_sectors), (Value.slice a_d_pending d.pending.length c_d_pending), (Value.int .i64 d.left), (Value.bool d.stopped)]) (i := 2) ty23 hs52 rfl rfl rfl ?_)
     replace hm := bd hm; obtain ⟨write_1, hv55, hm⟩ := hm
     refine Rg_op rfl (op_call Try.call50 (g50_api_Write_ (s := d.pending) hs52.ltw f_d_pending hv55) rfl ?_)
     rintro _ w57 ⟨hx58, a61, c62, k63, o64, rfl, hk65, f66⟩
     obtain ⟨hs60, p67⟩ := hs52.callG (o := o64) hx58 hk65
     rw [← ks_cons (o := o64)] at f66
     replace f_d_sectors := f_d_sectors.step p67; replace f_d_pending := f_d_pending.step p67; replace f54 := f54.step p67; clear p67 hs52
     obtain ⟨hs70, p71, f69⟩ := Gs.publish (i := 0) hs60 rfl f66
     replace f_d_sectors := f_d_sectors.step p71; replace f_d_pending := f_d_pending.step p71; replace f54 := f54.step p71; clear p71 hs60
     replace hm := bd hm; obtain ⟨write_2, hv72, hm⟩ := hm
     refine Rg_op rfl (op_call Try.call49 (c49_api_Write_ (s := write_1) hs70.ltw f69 hv72) rfl ?_)
     rintro v73 w74 ⟨hx75, h76⟩
     have hs77 := hs70.call hx75
     have p78 := Step.ext (O := ks [(some b42, o53), (some b6, Obj.cells [(Value.slice none 0 0), (Value.slice none 0 0), (Value.int .i64 0), (Value.bool false)].toArray 25), (some b1, Obj.cells [(Value.slice a_d_sectors d.sectors.length c_d_sectors), (Value.slice a_d_pending d.pending.length c_d_pending), (Value.int .i64 d.left), (Value.bool d.stopped)].toArray 25)] O) hx75
     clear hx75
     replace f_d_sectors := f_d_sectors.step p78; replace f_d_pending := f_d_pending.step p78; replace f54 := f54.step p78; replace f69 := f69.step p78; clear p78 hs70
     obtain ⟨a79, rfl, f80⟩ := h76
     refine Rg_op rfl (op_move (v := (Value.int .i64 at_)) rfl ?_)
     refine Rg_op rfl (op_move (v := (Value.slice (some ⟨b42, 0, none⟩) (b.take (List.replicate 128 (0 : UInt8)).length ++ (List.replicate 128 (0 : UInt8)).drop b.length).length 128)) (eqlen rfl (show (List.replicate 128 (0 : UInt8)).length = (b.take (List.replicate 128 (0 : UInt8)).length ++ (List.replicate 128 (0 : UInt8)).drop b.length).length from by first | (simp; done) | (simp; omega))) ?_)
     refine Rg_op rfl (op_build (vs := [(Value.int .i64 at_), (Value.slice (some ⟨b42, 0, none⟩) (b.take (List.replicate 128 (0 : UInt8)).length ++ (List.replicate 128 (0 : UInt8)).drop b.length).length 128)]) (parts := [(0, .tmp 39), (1, .tmp 40)]) ty73 pl73 rfl ?_)
     obtain ⟨hs82, p83, f81⟩ := Gs.publish (i := 0) hs77 rfl f54
     replace f_d_sectors := f_d_sectors.step p83; replace f_d_pending := f_d_pending.step p83; replace f69 := f69.step p83; replace f80 := f80.step p83; clear p83 hs77
     refine Rg_op rfl (op_buildSlice (cs := [(Value.int .i64 at_), (Value.slice (some ⟨b42, 0, none⟩) (b.take (List.replicate 128 (0 : UInt8)).length ++ (List.replicate 128 (0 : UInt8)).drop b.length).length 128)]) (parts := [(0, .tmp 41)]) ty23 ty73 hs82 (by decide) rfl ?_)
     intro b84 w85 hx88 p86 hs87
     replace f_d_sectors := f_d_sectors.step p86; replace f_d_pending := f_d_pending.step p86; replace f69 := f69.step p86; replace f80 := f80.step p86; replace f81 := f81.step p86; clear p86 hs82
     replace hm := ck_some hm; obtain ⟨hc90, hm⟩ := hm
     refine Rg_op rfl (op_appendP (q := rXWrite) (xs := write_2) (ys := [(⟨at_, (b.take (List.replicate 128 (0 : UInt8)).length ++ (List.replicate 128 (0 : UInt8)).drop b.length)⟩ : XWrite)]) (news := [(Value.int .i64 at_), (Value.slice (some ⟨b42, 0, none⟩) (b.take (List.replicate 128 (0 : UInt8)).length ++ (List.replicate 128 (0 : UInt8)).drop b.length).length 128)]) ty23 ty73 rfl (by decide) hs87 rfl f80 rfl (Src.owned' (len := 2) (hs87.get (i := 0) rfl) rfl) (show Els rXWrite _ _ [(Value.int .i64 at_), (Value.slice (some ⟨b42, 0, none⟩) (b.take (List.replicate 128 (0 : UInt8)).length ++ (List.replicate 128 (0 : UInt8)).drop b.length).length 128)] [(⟨at_, (b.take (List.replicate 128 (0 : UInt8)).length ++ (List.replicate 128 (0 : UInt8)).drop b.length)⟩ : XWrite)] from ⟨_, _, rfl, (mkVia (mk_pair (mk_int r_at_) (mk_sl f81))), Els.nil⟩) (le_lit rfl) hc90 (by have := hc90; simp only [maxLen]; omega) ?_)
     intro a94 c95 w91 p92 hs93 f96
     replace f_d_sectors := f_d_sectors.step p92; replace f_d_pending := f_d_pending.step p92; replace f69 := f69.step p92; replace f80 := f80.step p92; replace f81 := f81.step p92; clear p92 hs87
     have hs97 := hs93.drop 0
     replace f_d_sectors := f_d_sectors.step (hs93.dropS 0)
     replace f_d_pending := f_d_pending.step (hs93.dropS 0)
     replace f69 := f69.step (hs93.dropS 0)
     replace f80 := f80.step (hs93.dropS 0)
     replace f81 := f81.step (hs93.dropS 0)
     replace f96 := f96.step (hs93.dropS 0); clear hs93
     refine Rg_op rfl (op_fieldAddr ty25 rfl ty23 (by decide) rfl (rfl : _ = (⟨_, 1, none⟩ : Addr)) ?_)
     refine Rg_op_ (op_store (cs := [(Value.slice a_d_sectors d.sectors.length c_d_sectors), (Value.slice a_d_pending d.pending.length c_d_pending), (Value.int .i64 d.left), (Value.bool d.stopped)]) (vs := [(Value.slice a94 (write_2 ++ [(⟨at_, (b.take (List.replicate 128 (0 : UInt8)).length ++ (List.replicate 128 (0 : UInt8)).drop b.length)⟩ : XWrite)]).length c95)]) (cs' := [(Value.slice a_d_sectors d.sectors.length c_d_sectors), (Value.slice a94 (write_2 ++ [(⟨at_, (b.take (List.replicate 128 (0 : UInt8)).length ++ (List.replicate 128 (0 : UInt8)).drop b.length)⟩ : XWrite)]).length c95), (Value.int .i64 d.left), (Value.bool d.stopped)]) (bs' := [(some b6, Obj.cells [(Value.slice none 0 0), (Value.slice none 0 0), (Value.int .i64 0), (Value.bool false)].toArray 25), (some b1, Obj.cells [(Value.slice a_d_sectors d.sectors.length c_d_sectors), (Value.slice a94 (write_2 ++ [(⟨at_, (b.take (List.replicate 128 (0 : UInt8)).length ++ (List.replicate 128 (0 : UInt8)).drop b.length)⟩ : XWrite)]).length c95), (Value.int .i64 d.left), (Value.bool d.stopped)].toArray 25)]) (i := 1) ty23 hs97 rfl rfl rfl rfl rfl (le_lit rfl) rfl rfl rfl ?_)
     intro w98 p99 hs100
     replace f_d_sectors := f_d_sectors.step p99; replace f_d_pending := f_d_pending.step p99; replace f69 := f69.step p99; replace f80 := f80.step p99; replace f81 := f81.step p99; replace f96 := f96.step p99; clear p99 hs97
     refine Rg_nil ?_
     refine Wp_seq ?_
     clear f_d_pending f69 f80 f81
     refine Wp_reset [] [(3, (Value.pointer (some ⟨b1, 0, none⟩))), (6, (Value.pointer (some ⟨b6, 0, none⟩)))] rfl ⟨rfl, rfl, trivial⟩ fun ξ101 => ?_
     refine Wp_region ?_
     refine Rg_op rfl (op_loadA (cs := [(Value.slice a_d_sectors d.sectors.length c_d_sectors), (Value.slice a94 (write_2 ++ [(⟨at_, (b.take (List.replicate 128 (0 : UInt8)).length ++ (List.replicate 128 (0 : UInt8)).drop b.length)⟩ : XWrite)]).length c95), (Value.int .i64 d.left), (Value.bool d.stopped)]) (vs := [(Value.slice a_d_sectors d.sectors.length c_d_sectors), (Value.slice a94 (write_2 ++ [(⟨at_, (b.take (List.replicate 128 (0 : UInt8)).length ++ (List.replicate 128 (0 : UInt8)).drop b.length)⟩ : XWrite)]).length c95), (Value.int .i64 d.left), (Value.bool d.stopped)]) (i := 1) ty25 hs100 rfl rfl rfl rfl ?_)
     refine Rg_op_ (op_store (cs := [(Value.slice none 0 0), (Value.slice none 0 0), (Value.int .i64 0), (Value.bool false)]) (vs := [(Value.slice a_d_sectors d.sectors.length c_d_sectors), (Value.slice a94 (write_2 ++ [(⟨at_, (b.take (List.replicate 128 (0 : UInt8)).length ++ (List.replicate 128 (0 : UInt8)).drop b.length)⟩ : XWrite)]).length c95), (Value.int .i64 d.left), (Value.bool d.stopped)]) (cs' := [(Value.slice a_d_sectors d.sectors.length c_d_sectors), (Value.slice a94 (write_2 ++ [(⟨at_, (b.take (List.replicate 128 (0 : UInt8)).length ++ (List.replicate 128 (0 : UInt8)).drop b.length)⟩ : XWrite)]).length c95), (Value.int .i64 d.left), (Value.bool d.stopped)]) (bs' := [(some b6, Obj.cells [(Value.slice a_d_sectors d.sectors.length c_d_sectors), (Value.slice a94 (write_2 ++ [(⟨at_, (b.take (List.replicate 128 (0 : UInt8)).length ++ (List.replicate 128 (0 : UInt8)).drop b.length)⟩ : XWrite)]).length c95), (Value.int .i64 d.left), (Value.bool d.stopped)].toArray 25), (some b1, Obj.cells [(Value.slice a_d_sectors d.sectors.length c_d_sectors), (Value.slice a94 (write_2 ++ [(⟨at_, (b.take (List.replicate 128 (0 : UInt8)).length ++ (List.replicate 128 (0 : UInt8)).drop b.length)⟩ : XWrite)]).length c95), (Value.int .i64 d.left), (Value.bool d.stopped)].toArray 25)]) (i := 0) ty25 hs100 rfl rfl rfl rfl rfl (le_lit rfl) rfl rfl rfl ?_)
     intro w102 p103 hs104
     replace f_d_sectors := f_d_sectors.step p103; replace f96 := f96.step p103; clear p103 hs100
     refine Rg_op rfl (op_assign (v := (Value.int .i64 0)) rfl ?_)
     refine Rg_nil ?_
     refine Wp_ret ?_
     have hz := step_all hs104
     replace f_d_sectors := f_d_sectors.step hz; replace f96 := f96.step hz
     refine ⟨_, (show Closes [] _ _ from rfl), [(Value.agg [(Value.slice a_d_sectors d.sectors.length c_d_sectors), (Value.slice a94 (write_2 ++ [(⟨at_, (b.take (List.replicate 128 (0 : UInt8)).length ++ (List.replicate 128 (0 : UInt8)).drop b.length)⟩ : XWrite)]).length c95), (Value.int .i64 d.left), (Value.bool d.stopped)].toArray), (Value.int .i64 0)], ⟨resA (cs := [(Value.slice a_d_sectors d.sectors.length c_d_sectors), (Value.slice a94 (write_2 ++ [(⟨at_, (b.take (List.replicate 128 (0 : UInt8)).length ++ (List.replicate 128 (0 : UInt8)).drop b.length)⟩ : XWrite)]).length c95), (Value.int .i64 d.left), (Value.bool d.stopped)]) (vs := [(Value.slice a_d_sectors d.sectors.length c_d_sectors), (Value.slice a94 (write_2 ++ [(⟨at_, (b.take (List.replicate 128 (0 : UInt8)).length ++ (List.replicate 128 (0 : UInt8)).drop b.length)⟩ : XWrite)]).length c95), (Value.int .i64 d.left), (Value.bool d.stopped)]) ty25 (i := 0) hs104 rfl rfl rfl rfl, rfl, trivial⟩, hs104.ext, ?_⟩
     exact Vr.eq (a := (vT2 (vA rXDisk) (vI .i64))) (x := ((⟨d.sectors, (write_2 ++ [(⟨at_, (b.take (List.replicate 128 (0 : UInt8)).length ++ (List.replicate 128 (0 : UInt8)).drop b.length)⟩ : XWrite)]), d.left, d.stopped⟩ : XDisk), 0)) (mkT2 (mkA (mkVia (mk_pair (mk_sl f_d_sectors) (mk_pair (mk_sl f96) (mk_pair (mk_int r_d_left) mkBool))))) ⟨rfl, (show InK .i64 0 from by decide)⟩) (Option.some.inj hm)
 ·
  intro K15 hK15
  have ch105 := Step.refl (ks [(some b6, Obj.cells [(Value.slice none 0 0), (Value.slice none 0 0), (Value.int .i64 0), (Value.bool false)].toArray 25), (some b1, Obj.cells [(Value.slice a_d_sectors d.sectors.length c_d_sectors), (Value.slice a_d_pending d.pending.length c_d_pending), (Value.int .i64 d.left), (Value.bool d.stopped)].toArray 25)] O) w7
  refine Wp_region ?_
  refine Rg_op rfl (op_loadA (cs := [(Value.slice a_d_sectors d.sectors.length c_d_sectors), (Value.slice a_d_pending d.pending.length c_d_pending), (Value.int .i64 d.left), (Value.bool d.stopped)]) (vs := [(Value.slice a_d_sectors d.sectors.length c_d_sectors), (Value.slice a_d_pending d.pending.length c_d_pending), (Value.int .i64 d.left), (Value.bool d.stopped)]) (i := 1) ty25 hs9 rfl rfl rfl rfl ?_)
  replace hm := bd hm; obtain ⟨runs_1, hv106, hm⟩ := hm
  refine Rg_op rfl (op_call Try.call47 (c47_disk_runs (d := d) hs9.ltw f_d_sectors f_d_pending r_d_left hv106) rfl ?_)
  rintro v107 w108 ⟨hx109, h110⟩
  have hs111 := hs9.call hx109
  have p112 := Step.ext (O := ks [(some b6, Obj.cells [(Value.slice none 0 0), (Value.slice none 0 0), (Value.int .i64 0), (Value.bool false)].toArray 25), (some b1, Obj.cells [(Value.slice a_d_sectors d.sectors.length c_d_sectors), (Value.slice a_d_pending d.pending.length c_d_pending), (Value.int .i64 d.left), (Value.bool d.stopped)].toArray 25)] O) hx109
  clear hx109
  replace f_d_sectors := f_d_sectors.step p112; replace f_d_pending := f_d_pending.step p112; replace f_b := f_b.step p112; replace ch105 := ch105.trans p112; clear p112 hs9
  obtain rfl := h110
  refine Rg_op rfl (op_not rfl ?_)
  refine Rg_op rfl (op_move (v := (Value.bool (!runs_1))) rfl ?_)
  refine Rg_case (fun hg114 => ?_) (fun hg114 => ?_)
  ·
   replace hm := bif_t hm hg114
   iterate 4 refine Rg_opx rfl (asB_ne rfl rfl) rfl ?_
   refine Rg_op rfl (op_pick_t (v := (Value.bool true)) rfl rfl ?_)
   refine Rg_op rfl (op_assign (v := (Value.bool true)) rfl ?_)
   refine Rg_nil ?_
   exact hK15 _ _ ⟨true, _, rfl, ⟨(by repeat (first | with_reducible exact Out.refl _ _ | refine Out.upd ?_ rfl | refine Out.updL ?_ rfl | refine Out.mix' ?_ rfl | exact Out.refl _ _)), rfl, rfl, trivial⟩, ch105, hs111, hm⟩
  ·
   replace hm := bif_f hm hg114
   refine Rg_opg rfl rfl rfl (op_loadA (cs := [(Value.slice a_d_sectors d.sectors.length c_d_sectors), (Value.slice a_d_pending d.pending.length c_d_pending), (Value.int .i64 d.left), (Value.bool d.stopped)]) (vs := [(Value.slice a_d_sectors d.sectors.length c_d_sectors), (Value.slice a_d_pending d.pending.length c_d_pending), (Value.int .i64 d.left), (Value.bool d.stopped)]) (i := 1) ty25 hs111 rfl rfl rfl rfl ?_)
   refine Rg_opg rfl rfl rfl (op_move (v := (Value.int .i64 at_)) rfl ?_)
   replace hm := bd hm; obtain ⟨has_1, hv115, hm⟩ := hm
   refine Rg_opg rfl rfl rfl (op_call Try.call48 (c48_disk_has (d := d) (at_ := at_) hs111.ltw f_d_sectors f_d_pending r_d_left r_at_ hv115) rfl ?_)
   rintro v116 w117 ⟨hx118, h119⟩
   have hs120 := hs111.call hx118
   have p121 := Step.ext (O := ks [(some b6, Obj.cells [(Value.slice none 0 0), (Value.slice none 0 0), (Value.int .i64 0), (Value.bool false)].toArray 25), (some b1, Obj.cells [(Value.slice a_d_sectors d.sectors.length c_d_sectors), (Value.slice a_d_pending d.pending.length c_d_pending), (Value.int .i64 d.left), (Value.bool d.stopped)].toArray 25)] O) hx118
   clear hx118
   replace f_d_sectors := f_d_sectors.step p121; replace f_d_pending := f_d_pending.step p121; replace f_b := f_b.step p121; replace ch105 := ch105.trans p121; clear p121 hs111
   obtain rfl := h119
   refine Rg_opg rfl rfl rfl (op_not rfl ?_)
   refine Rg_op rfl (op_pick_f (v := (Value.bool (!has_1))) rfl rfl ?_)
   refine Rg_op rfl (op_assign (v := (Value.bool (!has_1))) rfl ?_)
   refine Rg_nil ?_
   exact hK15 _ _ ⟨(!has_1), _, rfl, ⟨(by repeat (first | with_reducible exact Out.refl _ _ | refine Out.upd ?_ rfl | refine Out.updL ?_ rfl | refine Out.mix' ?_ rfl | exact Out.refl _ _)), rfl, rfl, trivial⟩, ch105, hs120, hm⟩

end Go.Fx



set_option linter.unusedVariables false
set_option linter.unusedSimpArgs false
set_option maxRecDepth 100000
set_option maxHeartbeats 0
namespace Go.Fx
open Go Go.RowKit Go.Proofs
def m67_slices_Clonebyte_byte_ (s : List (List UInt8)) : Option (List (List UInt8)) :=
 ck ((([] : List (List UInt8)).length + s.length) * 24 ≤ 140737488355328) <|
 some (([] : List (List UInt8)) ++ s)

theorem g67_slices_Clonebyte_byte_ {w : World} {O : List Nat} {s : List (List UInt8)} {a_s : Option Addr} {c_s : Nat} (hO : ∀ k ∈ O, k < w.heap.size) (f_s : SlR (rSl rU8) w O a_s c_s s) {x : (List (List UInt8))} (hm : m67_slices_Clonebyte_byte_ s = some x) :
  OkG Try.prog 67 [(Value.slice a_s s.length c_s)] w O (rSl rU8) 41 x := by
 unfold m67_slices_Clonebyte_byte_ at hm
 refine Fn_of_Wp (n := 8) (xs := [.tmp 2]) Try.func67 rfl Try.ntmps67 Try.results67 rfl ?_
 have hs := St.start hO
 refine Wp_seq ?_
 refine Wp_region ?_
 refine Rg_op rfl (op_assign (v := (Value.slice none 0 0)) rfl ?_)
 refine Rg_nil ?_
 refine Wp_seq ?_
 refine Wp_seq ?_
 refine Wp_region ?_
 refine Rg_op rfl (op_move (v := (Value.slice a_s s.length c_s)) rfl ?_)
 refine Rg_op rfl (op_eqnil Try.underlying22 rfl rfl ?_)
 refine Rg_nil ?_
 rcases a_s with _ | ad1
 ·
  have hnil2 := (f_s.nil rfl).1
  refine Wp_cond_t rfl ?_
  refine Wp_seq ?_
  clear f_s
  refine Wp_region ?_
  refine Rg_op rfl (op_assign (v := (Value.slice none 0 0)) rfl ?_)
  refine Rg_nil ?_
  refine Wp_ret ?_
  refine ⟨_, (show Closes [] _ _ from rfl), [(Value.slice none 0 0)], ⟨rfl, trivial⟩, hs.ext, ?_⟩
  exact OkG.mkNil (by simp [ck, hnil2] at hm; first | exact hm | (subst hm; simp [hnil2]) | simpa using hm)
 ·
  refine Wp_cond_f rfl ?_
  refine Wp_skip ?_
  refine Wp_seq ?_
  refine Wp_region ?_
  refine Rg_op rfl (op_buildSlice (cs := []) (parts := []) ty22 ty41 hs (by decide) rfl ?_)
  intro b3 w4 hx7 p5 hs6
  replace f_s := f_s.step p5; clear p5
  refine Rg_op rfl (op_move (v := (Value.slice (some ad1) s.length c_s)) rfl ?_)
  have f9 := Gs.of_cells (p := (rSl rU8)) (e := 41) (bl := b3) (c := 0) (w := w4) (O := ks [(some b3, Obj.cells [].toArray 41)] O) (show Els (rSl rU8) _ _ [] [] from Els.nil) rfl (le_lit rfl)
  replace hm := ck_some hm; obtain ⟨hc10, hm⟩ := hm
  obtain ⟨ns11, he12, hr13⟩ := f_s.src
  refine Rg_op rfl (op_append (q := (rSl rU8)) (i := 0) (xs := ([] : List (List UInt8))) (ys := s) (news := ns11) ty22 ty41 rfl (by decide) hs6 rfl rfl f9 rfl hr13 he12 hc10 (by have := hc10; simp only [maxLen]; omega) ?_)
  intro a17 c18 k19 o20 w14 p15 hs16 f21
  replace f_s := f_s.step p15; clear p15 hs6
  refine Rg_op rfl (op_assign (v := (Value.slice a17 (([] : List (List UInt8)) ++ s).length c18)) rfl ?_)
  refine Rg_nil ?_
  refine Wp_ret ?_
  refine ⟨_, (show Closes [] _ _ from rfl), [(Value.slice a17 (([] : List (List UInt8)) ++ s).length c18)], ⟨rfl, trivial⟩, hs16.ext, ?_⟩
  exact OkG.mk (i := 0) hs16 rfl f21 (Option.some.inj hm)
end Go.Fx



set_option linter.unusedVariables false
set_option linter.unusedSimpArgs false
set_option maxRecDepth 100000
set_option maxHeartbeats 0
namespace Go.Fx
open Go Go.RowKit Go.Proofs
def m51_disk_perform_B0 (l : List XWrite) (sf19 : (List (List UInt8)) → Int → Option (List (List UInt8))) (out_1 : List (List UInt8)) (v_1 : Int) : Option (List (List UInt8)) :=
 bif (decide (v_1 < (l.length : Int))) then
  ck ((0 : Int) ≤ v_1 ∧ v_1 < (l.length : Int)) <|
  ck ((0 : Int) ≤ ((l.getD v_1.toNat default).at_) ∧ ((l.getD v_1.toNat default).at_) < (out_1.length : Int)) <|
  sf19 (out_1.set ((l.getD v_1.toNat default).at_).toNat ((l.getD v_1.toNat default).data)) (IntKind.wrap .i64 (v_1 + 1))
 else
  some out_1

def m51_disk_perform (sectors : List (List UInt8)) (l : List XWrite) : Option (List (List UInt8)) :=
 (m67_slices_Clonebyte_byte_ sectors).bind fun clone_1 =>
 loop2 (m51_disk_perform_B0 l) (((l.length : Int) - 0).toNat + 1) clone_1 0

theorem g51_disk_perform {w : World} {O : List Nat} {sectors : List (List UInt8)} {l : List XWrite} {a_sectors : Option Addr} {c_sectors : Nat} {a_l : Option Addr} {c_l : Nat} (hO : ∀ k ∈ O, k < w.heap.size) (f_sectors : SlR (rSl rU8) w O a_sectors c_sectors sectors) (f_l : SlR rXWrite w O a_l c_l l) {x : (List (List UInt8))} (hm : m51_disk_perform sectors l = some x) :
  OkG Try.prog 51 [(Value.slice a_sectors sectors.length c_sectors), (Value.slice a_l l.length c_l)] w O (rSl rU8) 41 x := by
 unfold m51_disk_perform at hm
 refine Fn_of_Wp (n := 24) (xs := [.tmp 4]) Try.func51 rfl Try.ntmps51 Try.results51 rfl ?_
 have hs := St.start hO
 refine Wp_seq ?_
 refine Wp_region ?_
 refine Rg_op rfl (op_assign (v := (Value.slice none 0 0)) rfl ?_)
 refine Rg_nil ?_
 refine Wp_seq ?_
 refine Wp_region ?_
 refine Rg_op rfl (op_move (v := (Value.slice a_sectors sectors.length c_sectors)) rfl ?_)
 replace hm := bd hm; obtain ⟨clone_1, hv1, hm⟩ := hm
 refine Rg_op rfl (op_call Try.call67 (g67_slices_Clonebyte_byte_ (s := sectors) hs.ltw f_sectors hv1) rfl ?_)
 rintro _ w3 ⟨hx4, a7, c8, k9, o10, rfl, hk11, f12⟩
 obtain ⟨hs6, p13⟩ := hs.callG (o := o10) hx4 hk11
 rw [← ks_cons (o := o10)] at f12
 replace f_sectors := f_sectors.step p13; replace f_l := f_l.step p13; clear p13
 refine Rg_op rfl (op_assign (v := (Value.slice a7 clone_1.length c8)) rfl ?_)
 refine Rg_nil ?_
 refine Wp_seq ?_
 refine Wp_seq ?_
 clear f_sectors
 refine Wp_region ?_
 refine Rg_op rfl (op_move (v := (Value.slice a_l l.length c_l)) rfl ?_)
 refine Rg_op rfl (op_len Try.underlying23 rfl ?_)
 have rl15 := inK_len f_l
 refine Rg_op rfl (op_move (v := (Value.int .i64 0)) rfl ?_)
 refine Rg_nil ?_
 refine Wp_block ?_
 refine Wp_reset [] [(5, (Value.slice a7 clone_1.length c8)), (10, (Value.slice a_l l.length c_l)), (11, (Value.int .i64 (l.length : Int))), (12, (Value.int .i64 0))] rfl ⟨rfl, rfl, rfl, rfl, trivial⟩ fun ξ18 => ?_
 refine Wp_loopM [5, 7, 12, 13, 14, 15, 16, 17, 18, 19, 20, 21, 22] (fun m fr w' => ∃ (out_1 : List (List UInt8)) (v_1 : Int) (a_g16 : Option Addr) (c_g16 : Nat) (k_g16 : Option Nat) (o_g16 : Obj) (Ebs : Ents), Ebs = [(k_g16, o_g16)] ∧ fr [] [(5, (Value.slice a_g16 out_1.length c_g16)), (12, (Value.int .i64 v_1))] ∧ Step (ks [(k9, o10)] O) w3 (ks Ebs O) w' ∧ St ⟨w, [], []⟩ O w' Ebs ∧ Gs (rSl rU8) 41 w' (ks Ebs O) a_g16 c_g16 out_1 k_g16 o_g16 ∧ InK .i64 v_1 ∧ loop2 (m51_disk_perform_B0 l) m out_1 v_1 = some x) (((l.length : Int) - 0).toNat + 1) ⟨clone_1, 0, a7, c8, k9, o10, _, rfl, ⟨Out.refl _ _, rfl, rfl, rfl, trivial⟩, Step.refl _ _, hs6, f12, (show InK .i64 0 from by decide), hm⟩ ?_ ?_
 · rintro _ _ ⟨_, _, _, _, _, _, _, _, _, _, _, _, _, hm⟩; exact loop2_z hm
 ·
  rintro m22 K21 hK21 ρ27 w23 ⟨out_1, v_1, a_g16, c_g16, k_g16, o_g16, Ebs, hEbs, hfr26, hst25, hs24, f_g16, r_y17, hm⟩
  obtain ⟨sf19, hsf20, hm⟩ := loop2_s hm; unfold m51_disk_perform_B0 at hm
  subst hEbs; rw [hfr26.eq]; clear hfr26
  replace f_l := f_l.step hst25; replace f12 := f12.step hst25
  have ch28 := hst25
  refine Wp_seq ?_
  clear f12
  refine Wp_region ?_
  refine Rg_op rfl (op_lss rfl rfl ?_)
  refine Rg_nil ?_
  refine Wp_seq ?_
  refine Wp_cond rfl (fun hc29 => ?_) (fun hc29 => ?_)
  ·
   replace hm := bif_t hm hc29
   refine Wp_skip ?_
   refine Wp_seq ?_
   refine Wp_block ?_
   refine Wp_seq ?_
   refine Wp_region ?_
   replace hm := ck_some hm; obtain ⟨hc30, hm⟩ := hm
   refine Rg_op rfl (op_indexAddr (q := rXWrite) ty23 ty73 rfl rfl f_l rfl hc30.1 hc30.2 ?_)
   intro p31 f32
   refine Rg_op rfl (op_loadPA ty73 rfl f32 rfl ?_)
   intro vs33 h34
   obtain ⟨_, _, rfl, ⟨rfl, r_y35_at_⟩, ⟨a_y35_data, c_y35_data, rfl, f_y35_data⟩⟩ := h34
   refine Rg_op rfl (op_alloc ty73 hs24 ?_)
   intro b36 w37 _ p38 hs39
   replace f_l := f_l.step p38; replace f_g16 := f_g16.step p38; replace f32 := f32.step p38; replace f_y35_data := f_y35_data.step p38; replace ch28 := ch28.trans p38; clear p38 hs24
   refine Rg_op_ (op_store (cs := [(Value.int .i64 0), (Value.slice none 0 0)]) (vs := [(Value.int .i64 ((l.getD v_1.toNat default).at_)), (Value.slice a_y35_data ((l.getD v_1.toNat default).data).length c_y35_data)]) (cs' := [(Value.int .i64 ((l.getD v_1.toNat default).at_)), (Value.slice a_y35_data ((l.getD v_1.toNat default).data).length c_y35_data)]) (bs' := [(some b36, Obj.cells [(Value.int .i64 ((l.getD v_1.toNat default).at_)), (Value.slice a_y35_data ((l.getD v_1.toNat default).data).length c_y35_data)].toArray 73), (k_g16, o_g16)]) (i := 0) ty73 hs39 rfl rfl rfl rfl rfl (le_lit rfl) rfl rfl rfl ?_)
   intro w41 p42 hs43
   replace f_l := f_l.step p42; replace f_g16 := f_g16.step p42; replace f32 := f32.step p42; replace f_y35_data := f_y35_data.step p42; replace ch28 := ch28.trans p42; clear p42 hs39
   refine Rg_nil ?_
   clear f32
   refine Wp_region ?_
   refine Rg_op rfl (op_move (v := (Value.slice a_g16 out_1.length c_g16)) rfl ?_)
   refine Rg_op rfl (op_fieldAddr ty73 rfl ty3 (by decide) rfl (rfl : _ = (⟨_, 0, none⟩ : Addr)) ?_)
   refine Rg_op rfl (op_load (cs := [(Value.int .i64 ((l.getD v_1.toNat default).at_)), (Value.slice a_y35_data ((l.getD v_1.toNat default).data).length c_y35_data)]) (i := 0) ty3 hs43 rfl rfl rfl ?_)
   refine Rg_op rfl (op_fieldAddr ty73 rfl ty41 (by decide) rfl (rfl : _ = (⟨_, 1, none⟩ : Addr)) ?_)
   refine Rg_op rfl (op_load (cs := [(Value.int .i64 ((l.getD v_1.toNat default).at_)), (Value.slice a_y35_data ((l.getD v_1.toNat default).data).length c_y35_data)]) (i := 0) ty41 hs43 rfl rfl rfl ?_)
   replace hm := ck_some hm; obtain ⟨hc44, hm⟩ := hm
   refine Rg_op rfl (op_indexAddrG ty22 ty41 rfl rfl f_g16 hc44 ?_)
   rintro b45 rfl rfl
   refine Rg_op_ (op_storeG (vs := [(Value.slice a_y35_data ((l.getD v_1.toNat default).data).length c_y35_data)]) (i := 1) (m := (l.getD v_1.toNat default).at_) ty41 rfl hs43 rfl rfl rfl rfl f_g16 hc44 (mk_sl f_y35_data) ?_)
   intro w46 o49 p47 hs48 f50
   replace f_l := f_l.step p47; replace f_y35_data := f_y35_data.step p47; replace ch28 := ch28.trans p47; clear p47 hs43
   refine Rg_nil ?_
   refine Wp_region ?_
   refine Rg_op rfl (op_addw rfl rfl ?_)
   refine Rg_op rfl (op_move (v := (Value.int .i64 (IntKind.wrap .i64 (v_1 + 1)))) rfl ?_)
   refine Rg_nil ?_
   have hs51 := hs48.drop 0
   replace f_l := f_l.step (hs48.dropS 0)
   replace f_y35_data := f_y35_data.step (hs48.dropS 0)
   replace f50 := f50.step (hs48.dropS 0)
   replace ch28 := ch28.trans (hs48.dropS 0); clear hs48
   exact hK21 _ _ ⟨(out_1.set ((l.getD v_1.toNat default).at_).toNat ((l.getD v_1.toNat default).data)), (IntKind.wrap .i64 (v_1 + 1)), (some ⟨b45, 0, none⟩), c_g16, (some b45), o49, _, rfl, ⟨(by repeat (first | with_reducible exact Out.refl _ _ | refine Out.upd ?_ rfl | refine Out.updL ?_ rfl | refine Out.mix' ?_ rfl | exact Out.refl _ _)), rfl, (eqlenV (show out_1.length = (out_1.set ((l.getD v_1.toNat default).at_).toNat ((l.getD v_1.toNat default).data)).length from by first | (simp; done) | (simp; omega))), rfl, trivial⟩, ch28, hs51, f50, (inK_wrap .i64 _), jnE2 hsf20 hm⟩
  ·
   replace hm := bif_f hm hc29
   refine Wp_exit ?_
   refine Wp_seq ?_
   clear f_l
   refine Wp_region ?_
   refine Rg_op rfl (op_move (v := (Value.slice a_g16 out_1.length c_g16)) rfl ?_)
   refine Rg_op rfl (op_assign (v := (Value.slice a_g16 out_1.length c_g16)) rfl ?_)
   refine Rg_nil ?_
   refine Wp_ret ?_
   refine ⟨_, (show Closes [] _ _ from rfl), [(Value.slice a_g16 out_1.length c_g16)], ⟨rfl, trivial⟩, hs24.ext, ?_⟩
   exact OkG.mk (i := 0) hs24 rfl f_g16 (Option.some.inj hm)
theorem c51_disk_perform {w : World} {O : List Nat} {sectors : List (List UInt8)} {l : List XWrite} {a_sectors : Option Addr} {c_sectors : Nat} {a_l : Option Addr} {c_l : Nat} (hO : ∀ k ∈ O, k < w.heap.size) (f_sectors : SlR (rSl rU8) w O a_sectors c_sectors sectors) (f_l : SlR rXWrite w O a_l c_l l) {x : (List (List UInt8))} (hm : m51_disk_perform sectors l = some x) :
  Ok Try.prog 51 [(Value.slice a_sectors sectors.length c_sectors), (Value.slice a_l l.length c_l)] w O (vC (rSl (rSl rU8))) x :=
 (g51_disk_perform hO f_sectors f_l hm).ok hO

end Go.Fx



set_option linter.unusedVariables false
set_option linter.unusedSimpArgs false
set_option maxRecDepth 100000
set_option maxHeartbeats 0
namespace Go.Fx
open Go Go.RowKit Go.Proofs
def m25_disk_Sync (d : XDisk) : Option (XDisk × Int) :=
 (m47_disk_runs d).bind fun runs_1 =>
 bif (!runs_1) then
  some ((⟨([] : List (List UInt8)), ([] : List XWrite), 0, false⟩ : XDisk), 440)
 else
  jn (fun (v_1 : Bool) =>
   bif v_1 then
    ck ((0 : Int) ≤ d.left ∧ d.left ≤ (d.pending.length : Int)) <|
    (m51_disk_perform d.sectors ((d.pending.drop 0).take (d.left.toNat - 0))).bind fun perform_1 =>
    ck ((0 : Int) ≤ d.left ∧ d.left < (d.pending.length : Int)) <|
    ck ((0 : Int) ≤ ((d.pending.getD d.left.toNat default).at_) ∧ ((d.pending.getD d.left.toNat default).at_) < (perform_1.length : Int)) <|
    (m52_slices_Clonebyte_byte_ (perform_1.getD ((d.pending.getD d.left.toNat default).at_).toNat default)).bind fun clone_1 =>
    ck ((0 : Int) ≤ (0 : Int) ∧ (0 : Int) < (64 : Int) ∧ (64 : Int) ≤ (clone_1.length : Int)) <|
    ck (0 < 64) <|
    ck ((0 : Int) ≤ ((d.pending.getD d.left.toNat default).at_) ∧ ((d.pending.getD d.left.toNat default).at_) < (perform_1.length : Int)) <|
    some ((⟨(perform_1.set ((d.pending.getD d.left.toNat default).at_).toNat (clone_1.take 0 ++ (((d.pending.getD d.left.toNat default).data).take (64 - 0) ++ (clone_1.drop 0).drop (min ((d.pending.getD d.left.toNat default).data).length (64 - 0))))), ([] : List XWrite), 0, true⟩ : XDisk), 440)
   else
    (m51_disk_perform d.sectors d.pending).bind fun perform_2 =>
    bif (decide (0 ≤ d.left)) then
     some ((⟨perform_2, ([] : List XWrite), (IntKind.wrap .i64 (d.left - (d.pending.length : Int))), false⟩ : XDisk), 0)
    else
     some ((⟨perform_2, ([] : List XWrite), d.left, false⟩ : XDisk), 0))
  (fun k28 =>
   bif (decide (0 ≤ d.left)) then
    k28 (decide (d.left < (d.pending.length : Int)))
   else
    k28 false)

theorem c25_disk_Sync {w : World} {O : List Nat} {d : XDisk} {a_d_sectors : Option Addr} {c_d_sectors : Nat} {a_d_pending : Option Addr} {c_d_pending : Nat} (hO : ∀ k ∈ O, k < w.heap.size) (f_d_sectors : SlR (rSl rU8) w O a_d_sectors c_d_sectors d.sectors) (f_d_pending : SlR rXWrite w O a_d_pending c_d_pending d.pending) (r_d_left : InK .i64 d.left) {x : XDisk × Int} (hm : m25_disk_Sync d = some x) :
  Ok Try.prog 25 [(Value.agg [(Value.slice a_d_sectors d.sectors.length c_d_sectors), (Value.slice a_d_pending d.pending.length c_d_pending), (Value.int .i64 d.left), (Value.bool d.stopped)].toArray)] w O (vT2 (vA rXDisk) (vI .i64)) x := by
 unfold m25_disk_Sync at hm
 refine Fn_of_Wp (n := 78) (xs := [.cell 2 25, .tmp 3]) Try.func25 rfl Try.ntmps25 Try.results25 rfl ?_
 have hs := St.start hO
 refine Wp_seq ?_
 refine Wp_region ?_
 refine Rg_op rfl (op_box (cs := [(Value.slice a_d_sectors d.sectors.length c_d_sectors), (Value.slice a_d_pending d.pending.length c_d_pending), (Value.int .i64 d.left), (Value.bool d.stopped)]) hs rfl rfl ?_)
 intro b1 w2 _ p3 hs4
 replace f_d_sectors := f_d_sectors.step p3; replace f_d_pending := f_d_pending.step p3; clear p3
 refine Rg_op rfl (op_alloc ty25 hs4 ?_)
 intro b6 w7 _ p8 hs9
 replace f_d_sectors := f_d_sectors.step p8; replace f_d_pending := f_d_pending.step p8; clear p8 hs4
 refine Rg_op rfl (op_assign (v := (Value.int .i64 0)) rfl ?_)
 refine Rg_nil ?_
 refine Wp_seq ?_
 refine Wp_seq ?_
 refine Wp_region ?_
 refine Rg_op rfl (op_loadA (cs := [(Value.slice a_d_sectors d.sectors.length c_d_sectors), (Value.slice a_d_pending d.pending.length c_d_pending), (Value.int .i64 d.left), (Value.bool d.stopped)]) (vs := [(Value.slice a_d_sectors d.sectors.length c_d_sectors), (Value.slice a_d_pending d.pending.length c_d_pending), (Value.int .i64 d.left), (Value.bool d.stopped)]) (i := 1) ty25 hs9 rfl rfl rfl rfl ?_)
 replace hm := bd hm; obtain ⟨runs_1, hv11, hm⟩ := hm
 refine Rg_op rfl (op_call Try.call47 (c47_disk_runs (d := d) hs9.ltw f_d_sectors f_d_pending r_d_left hv11) rfl ?_)
 rintro v12 w13 ⟨hx14, h15⟩
 have hs16 := hs9.call hx14
 have p17 := Step.ext (O := ks [(some b6, Obj.cells [(Value.slice none 0 0), (Value.slice none 0 0), (Value.int .i64 0), (Value.bool false)].toArray 25), (some b1, Obj.cells [(Value.slice a_d_sectors d.sectors.length c_d_sectors), (Value.slice a_d_pending d.pending.length c_d_pending), (Value.int .i64 d.left), (Value.bool d.stopped)].toArray 25)] O) hx14
 clear hx14
 replace f_d_sectors := f_d_sectors.step p17; replace f_d_pending := f_d_pending.step p17; clear p17 hs9
 obtain rfl := h15
 refine Rg_op rfl (op_not rfl ?_)
 refine Rg_nil ?_
 refine Wp_cond rfl (fun hc19 => ?_) (fun hc19 => ?_)
 ·
  replace hm := bif_t hm hc19
  refine Wp_seq ?_
  obtain ⟨hs20, p21⟩ := hs16.sub (bs' := [(some b6, Obj.cells [(Value.slice none 0 0), (Value.slice none 0 0), (Value.int .i64 0), (Value.bool false)].toArray 25)]) (.cons_cons _ (.cons _ List.Sublist.slnil))
  clear f_d_sectors f_d_pending
  clear p21 hs16
  refine Wp_region ?_
  refine Rg_op rfl (op_loadA (cs := [(Value.slice none 0 0), (Value.slice none 0 0), (Value.int .i64 0), (Value.bool false)]) (vs := [(Value.slice none 0 0), (Value.slice none 0 0), (Value.int .i64 0), (Value.bool false)]) (i := 0) ty25 hs20 rfl rfl rfl rfl ?_)
  refine Rg_op_ (op_store (cs := [(Value.slice none 0 0), (Value.slice none 0 0), (Value.int .i64 0), (Value.bool false)]) (vs := [(Value.slice none 0 0), (Value.slice none 0 0), (Value.int .i64 0), (Value.bool false)]) (cs' := [(Value.slice none 0 0), (Value.slice none 0 0), (Value.int .i64 0), (Value.bool false)]) (bs' := [(some b6, Obj.cells [(Value.slice none 0 0), (Value.slice none 0 0), (Value.int .i64 0), (Value.bool false)].toArray 25)]) (i := 0) ty25 hs20 rfl rfl rfl rfl rfl (le_lit rfl) rfl rfl rfl ?_)
  intro w22 p23 hs24
  clear p23 hs20
  refine Rg_op rfl (op_assign (v := (Value.int .i64 440)) rfl ?_)
  refine Rg_nil ?_
  refine Wp_ret ?_
  have hz := step_all hs24
  refine ⟨_, (show Closes [] _ _ from rfl), [(Value.agg [(Value.slice none 0 0), (Value.slice none 0 0), (Value.int .i64 0), (Value.bool false)].toArray), (Value.int .i64 440)], ⟨resA (cs := [(Value.slice none 0 0), (Value.slice none 0 0), (Value.int .i64 0), (Value.bool false)]) (vs := [(Value.slice none 0 0), (Value.slice none 0 0), (Value.int .i64 0), (Value.bool false)]) ty25 (i := 0) hs24 rfl rfl rfl rfl, rfl, trivial⟩, hs24.ext, ?_⟩
  exact Vr.eq (a := (vT2 (vA rXDisk) (vI .i64))) (x := ((⟨([] : List (List UInt8)), ([] : List XWrite), 0, false⟩ : XDisk), 440)) (mkT2 (mkA (mkVia (mk_pair (mk_sl SlR.nil_) (mk_pair (mk_sl SlR.nil_) (mk_pair (mk_int (show InK .i64 0 from by decide)) mkBool))))) ⟨rfl, (show InK .i64 440 from by decide)⟩) (Option.some.inj hm)
 ·
  replace hm := bif_f hm hc19
  refine Wp_skip ?_
  refine Wp_seq ?_
  refine Wp_region ?_
  refine Rg_op rfl (op_fieldAddr ty25 rfl ty23 (by decide) rfl (rfl : _ = (⟨_, 1, none⟩ : Addr)) ?_)
  refine Rg_op rfl (op_load (cs := [(Value.slice a_d_sectors d.sectors.length c_d_sectors), (Value.slice a_d_pending d.pending.length c_d_pending), (Value.int .i64 d.left), (Value.bool d.stopped)]) (i := 1) ty23 hs16 rfl rfl rfl ?_)
  refine Rg_op rfl (op_len Try.underlying23 rfl ?_)
  have rl25 := inK_len f_d_pending
  refine Rg_op rfl (op_assign (v := (Value.int .i64 (d.pending.length : Int))) rfl ?_)
  refine Rg_nil ?_
  refine Wp_seq ?_
  refine Wp_reset [] [(1, (Value.pointer (some ⟨b1, 0, none⟩))), (2, (Value.pointer (some ⟨b6, 0, none⟩))), (4, (Value.int .i64 (d.pending.length : Int)))] rfl ⟨rfl, rfl, rfl, trivial⟩ fun ξ26 => ?_
  replace hm := jn_elim hm; obtain ⟨k28, hk29, hm⟩ := hm
  refine Wp_seqJ [15, 16, 17, 18, 19, 20, 21, 22, 23] (fun fr w' => ∃ (v_1 : Bool) (Ebs : Ents), Ebs = [(some b6, Obj.cells [(Value.slice none 0 0), (Value.slice none 0 0), (Value.int .i64 0), (Value.bool false)].toArray 25), (some b1, Obj.cells [(Value.slice a_d_sectors d.sectors.length c_d_sectors), (Value.slice a_d_pending d.pending.length c_d_pending), (Value.int .i64 d.left), (Value.bool d.stopped)].toArray 25)] ∧ fr [] [(23, (Value.bool v_1))] ∧ Step (ks [(some b6, Obj.cells [(Value.slice none 0 0), (Value.slice none 0 0), (Value.int .i64 0), (Value.bool false)].toArray 25), (some b1, Obj.cells [(Value.slice a_d_sectors d.sectors.length c_d_sectors), (Value.slice a_d_pending d.pending.length c_d_pending), (Value.int .i64 d.left), (Value.bool d.stopped)].toArray 25)] O) w13 (ks Ebs O) w' ∧ St ⟨w, [], []⟩ O w' Ebs ∧ k28 v_1 = some x) ?_ ?_
  ·
   rintro ρ35 w31 ⟨v_1, Ebs, hEbs, hfr34, hst33, hs32, hm⟩
   replace hm := jnE1 hk29 hm
   subst hEbs; rw [hfr34.eq]; clear hfr34
   replace f_d_sectors := f_d_sectors.step hst33; replace f_d_pending := f_d_pending.step hst33; clear hst33 hs16
   refine Wp_cond rfl (fun hc36 => ?_) (fun hc36 => ?_)
   ·
    replace hm := bif_t hm hc36
    refine Wp_seq ?_
    refine Wp_region ?_
    refine Rg_op rfl (op_fieldAddr ty25 rfl ty23 (by decide) rfl (rfl : _ = (⟨_, 1, none⟩ : Addr)) ?_)
    refine Rg_op rfl (op_load (cs := [(Value.slice a_d_sectors d.sectors.length c_d_sectors), (Value.slice a_d_pending d.pending.length c_d_pending), (Value.int .i64 d.left), (Value.bool d.stopped)]) (i := 1) ty23 hs32 rfl rfl rfl ?_)
    refine Rg_op rfl (op_fieldAddr ty25 rfl ty3 (by decide) rfl (rfl : _ = (⟨_, 2, none⟩ : Addr)) ?_)
    refine Rg_op rfl (op_load (cs := [(Value.slice a_d_sectors d.sectors.length c_d_sectors), (Value.slice a_d_pending d.pending.length c_d_pending), (Value.int .i64 d.left), (Value.bool d.stopped)]) (i := 1) ty3 hs32 rfl rfl rfl ?_)
    refine Rg_op rfl (op_fieldAddr ty25 rfl ty3 (by decide) rfl (rfl : _ = (⟨_, 2, none⟩ : Addr)) ?_)
    refine Rg_op rfl (op_load (cs := [(Value.slice a_d_sectors d.sectors.length c_d_sectors), (Value.slice a_d_pending d.pending.length c_d_pending), (Value.int .i64 d.left), (Value.bool d.stopped)]) (i := 1) ty3 hs32 rfl rfl rfl ?_)
    replace hm := ck_some hm; obtain ⟨hc37, hm⟩ := hm
    refine Rg_op rfl (op_slice (q := rXWrite) (l := 0) (h := d.left.toNat) (m := d.left.toNat) ty23 ty73 rfl f_d_pending rfl rfl (bndI rfl (by omega)) (bndI rfl (by omega)) (by decide) (by omega) (by omega) (by have h_ : d.pending.length ≤ c_d_pending := f_d_pending.le; omega) (by have h_ : d.pending.length ≤ c_d_pending := f_d_pending.le; omega) ?_)
    intro a38 f39
    refine Rg_op rfl (op_assign (v := (Value.slice a38 ((d.pending.drop 0).take (d.left.toNat - 0)).length (d.left.toNat - 0))) rfl ?_)
    refine Rg_nil ?_
    refine Wp_seq ?_
    refine Wp_region ?_
    refine Rg_op rfl (op_fieldAddr ty25 rfl ty22 (by decide) rfl (rfl : _ = (⟨_, 0, none⟩ : Addr)) ?_)
    refine Rg_op rfl (op_load (cs := [(Value.slice a_d_sectors d.sectors.length c_d_sectors), (Value.slice a_d_pending d.pending.length c_d_pending), (Value.int .i64 d.left), (Value.bool d.stopped)]) (i := 1) ty22 hs32 rfl rfl rfl ?_)
    refine Rg_op rfl (op_move (v := (Value.slice a38 ((d.pending.drop 0).take (d.left.toNat - 0)).length (d.left.toNat - 0))) rfl ?_)
    replace hm := bd hm; obtain ⟨perform_1, hv40, hm⟩ := hm
    refine Rg_op rfl (op_call Try.call51 (g51_disk_perform (sectors := d.sectors) (l := ((d.pending.drop 0).take (d.left.toNat - 0))) hs32.ltw f_d_sectors f39 hv40) rfl ?_)
    rintro _ w42 ⟨hx43, a46, c47, k48, o49, rfl, hk50, f51⟩
    obtain ⟨hs45, p52⟩ := hs32.callG (o := o49) hx43 hk50
    rw [← ks_cons (o := o49)] at f51
    replace f_d_sectors := f_d_sectors.step p52; replace f_d_pending := f_d_pending.step p52; replace f39 := f39.step p52; clear p52 hs32
    refine Rg_op rfl (op_build (vs := [(Value.slice a46 perform_1.length c47), (Value.slice none 0 0), (Value.int .i64 0), (Value.bool true)]) (parts := [(0, .tmp 34), (3, .const (.bool true))]) ty25 pl25 rfl ?_)
    refine Rg_op_ (op_store (cs := [(Value.slice none 0 0), (Value.slice none 0 0), (Value.int .i64 0), (Value.bool false)]) (vs := [(Value.slice a46 perform_1.length c47), (Value.slice none 0 0), (Value.int .i64 0), (Value.bool true)]) (cs' := [(Value.slice a46 perform_1.length c47), (Value.slice none 0 0), (Value.int .i64 0), (Value.bool true)]) (bs' := [(k48, o49), (some b6, Obj.cells [(Value.slice a46 perform_1.length c47), (Value.slice none 0 0), (Value.int .i64 0), (Value.bool true)].toArray 25), (some b1, Obj.cells [(Value.slice a_d_sectors d.sectors.length c_d_sectors), (Value.slice a_d_pending d.pending.length c_d_pending), (Value.int .i64 d.left), (Value.bool d.stopped)].toArray 25)]) (i := 1) ty25 hs45 rfl rfl rfl rfl rfl (le_lit rfl) rfl rfl rfl ?_)
    intro w54 p55 hs56
    replace f_d_sectors := f_d_sectors.step p55; replace f_d_pending := f_d_pending.step p55; replace f39 := f39.step p55; replace f51 := f51.step p55; clear p55 hs45
    refine Rg_nil ?_
    refine Wp_seq ?_
    clear f39
    refine Wp_region ?_
    refine Rg_op rfl (op_fieldAddr ty25 rfl ty23 (by decide) rfl (rfl : _ = (⟨_, 1, none⟩ : Addr)) ?_)
    refine Rg_op rfl (op_load (cs := [(Value.slice a_d_sectors d.sectors.length c_d_sectors), (Value.slice a_d_pending d.pending.length c_d_pending), (Value.int .i64 d.left), (Value.bool d.stopped)]) (i := 2) ty23 hs56 rfl rfl rfl ?_)
    refine Rg_op rfl (op_fieldAddr ty25 rfl ty3 (by decide) rfl (rfl : _ = (⟨_, 2, none⟩ : Addr)) ?_)
    refine Rg_op rfl (op_load (cs := [(Value.slice a_d_sectors d.sectors.length c_d_sectors), (Value.slice a_d_pending d.pending.length c_d_pending), (Value.int .i64 d.left), (Value.bool d.stopped)]) (i := 2) ty3 hs56 rfl rfl rfl ?_)
    replace hm := ck_some hm; obtain ⟨hc57, hm⟩ := hm
    refine Rg_op rfl (op_indexAddr (q := rXWrite) ty23 ty73 rfl rfl f_d_pending rfl hc57.1 hc57.2 ?_)
    intro p58 f59
    refine Rg_op rfl (op_loadPA ty73 rfl f59 rfl ?_)
    intro vs60 h61
    obtain ⟨_, _, rfl, ⟨rfl, r_y62_at_⟩, ⟨a_y62_data, c_y62_data, rfl, f_y62_data⟩⟩ := h61
    refine Rg_op rfl (op_alloc ty73 hs56 ?_)
    intro b63 w64 _ p65 hs66
    replace f_d_sectors := f_d_sectors.step p65; replace f_d_pending := f_d_pending.step p65; replace f51 := f51.step p65; replace f59 := f59.step p65; replace f_y62_data := f_y62_data.step p65; clear p65 hs56
    refine Rg_op_ (op_store (cs := [(Value.int .i64 0), (Value.slice none 0 0)]) (vs := [(Value.int .i64 ((d.pending.getD d.left.toNat default).at_)), (Value.slice a_y62_data ((d.pending.getD d.left.toNat default).data).length c_y62_data)]) (cs' := [(Value.int .i64 ((d.pending.getD d.left.toNat default).at_)), (Value.slice a_y62_data ((d.pending.getD d.left.toNat default).data).length c_y62_data)]) (bs' := [(some b63, Obj.cells [(Value.int .i64 ((d.pending.getD d.left.toNat default).at_)), (Value.slice a_y62_data ((d.pending.getD d.left.toNat default).data).length c_y62_data)].toArray 73), (k48, o49), (some b6, Obj.cells [(Value.slice a46 perform_1.length c47), (Value.slice none 0 0), (Value.int .i64 0), (Value.bool true)].toArray 25), (some b1, Obj.cells [(Value.slice a_d_sectors d.sectors.length c_d_sectors), (Value.slice a_d_pending d.pending.length c_d_pending), (Value.int .i64 d.left), (Value.bool d.stopped)].toArray 25)]) (i := 0) ty73 hs66 rfl rfl rfl rfl rfl (le_lit rfl) rfl rfl rfl ?_)
    intro w68 p69 hs70
    replace f_d_sectors := f_d_sectors.step p69; replace f_d_pending := f_d_pending.step p69; replace f51 := f51.step p69; replace f59 := f59.step p69; replace f_y62_data := f_y62_data.step p69; clear p69 hs66
    refine Rg_nil ?_
    refine Wp_seq ?_
    obtain ⟨hs71, p72⟩ := hs70.sub (bs' := [(some b63, Obj.cells [(Value.int .i64 ((d.pending.getD d.left.toNat default).at_)), (Value.slice a_y62_data ((d.pending.getD d.left.toNat default).data).length c_y62_data)].toArray 73), (k48, o49), (some b6, Obj.cells [(Value.slice a46 perform_1.length c47), (Value.slice none 0 0), (Value.int .i64 0), (Value.bool true)].toArray 25)]) (.cons_cons _ (.cons_cons _ (.cons_cons _ (.cons _ List.Sublist.slnil))))
    clear f_d_sectors f_d_pending f59
    replace f51 := f51.step p72; replace f_y62_data := f_y62_data.step p72; clear p72 hs70
    refine Wp_region ?_
    refine Rg_op rfl (op_fieldAddr ty25 rfl ty22 (by decide) rfl (rfl : _ = (⟨_, 0, none⟩ : Addr)) ?_)
    refine Rg_op rfl (op_load (cs := [(Value.slice a46 perform_1.length c47), (Value.slice none 0 0), (Value.int .i64 0), (Value.bool true)]) (i := 2) ty22 hs71 rfl rfl rfl ?_)
    refine Rg_op rfl (op_fieldAddr ty73 rfl ty3 (by decide) rfl (rfl : _ = (⟨_, 0, none⟩ : Addr)) ?_)
    refine Rg_op rfl (op_load (cs := [(Value.int .i64 ((d.pending.getD d.left.toNat default).at_)), (Value.slice a_y62_data ((d.pending.getD d.left.toNat default).data).length c_y62_data)]) (i := 0) ty3 hs71 rfl rfl rfl ?_)
    replace hm := ck_some hm; obtain ⟨hc73, hm⟩ := hm
    refine Rg_op rfl (op_indexAddrG ty22 ty41 rfl rfl f51 hc73 ?_)
    rintro b74 rfl rfl
    refine Rg_op rfl (op_loadG (m := (d.pending.getD d.left.toNat default).at_) (i := 1) ty41 rfl hs71 rfl rfl f51 hc73 ?_)
    intro v75 h76
    obtain ⟨a_y77, c_y77, rfl, f_y77⟩ := un_sl h76
    replace hm := bd hm; obtain ⟨clone_1, hv78, hm⟩ := hm
    refine Rg_op rfl (op_call Try.call52 (g52_slices_Clonebyte_byte_ (s := (perform_1.getD ((d.pending.getD d.left.toNat default).at_).toNat default)) hs71.ltw f_y77 hv78) rfl ?_)
    rintro _ w80 ⟨hx81, a84, c85, k86, o87, rfl, hk88, f89⟩
    obtain ⟨hs83, p90⟩ := hs71.callG (o := o87) hx81 hk88
    rw [← ks_cons (o := o87)] at f89
    replace f51 := f51.step p90; replace f_y62_data := f_y62_data.step p90; replace f_y77 := f_y77.step p90; clear p90 hs71
    refine Rg_op rfl (op_assign (v := (Value.slice a84 clone_1.length c85)) rfl ?_)
    refine Rg_nil ?_
    refine Wp_seq ?_
    clear f_y77
    refine Wp_reset [] [(2, (Value.pointer (some ⟨b6, 0, none⟩))), (6, (Value.pointer (some ⟨b63, 0, none⟩))), (7, (Value.slice a84 clone_1.length c85))] rfl ⟨rfl, rfl, rfl, trivial⟩ fun ξ92 => ?_
    refine Wp_drawR (g0 := []) (m := 4) (fl := []) (TS_inv hs83) rfl (.inl rfl) rfl (by decide +kernel) ?_  -- 9
    refine Dw_eq (Value.slice a84 clone_1.length c85) (fun ρ93 w94 g hle hi ht => ?_) ?_
    ·
     obtain ⟨-, hst, -⟩ := hle
     refine StepOp_plain (op_move (v := (Value.slice a84 clone_1.length c85)) (ht 7 rfl) ?_)
     exact Goes.same hi rfl
    replace hm := ck_some hm; obtain ⟨hc99, hm⟩ := hm
    obtain ⟨b100, rfl, rfl⟩ := f89.at_ (by omega)
    refine Dw_eq (Value.slice (some ⟨b100, if c85 = 0 then 0 else 0 + 0 * 1, none⟩) (64 - 0) (c85 - 0)) (fun ρ96 w97 g hle hi ht => ?_) ?_
    ·
     obtain ⟨-, hst, -⟩ := hle
     replace f89 := f89.step hst
     refine StepOp_plain (op_sliceO (l := 0) (h := 64) (m := c85) ty41 ty5 (ht 49 rfl) rfl (bndI rfl (by omega)) rfl (by decide) (by omega) (by have := f89.le; omega) (Nat.le_refl _) ?_)
     exact Goes.same hi rfl
    refine Dw_eq (Value.pointer (some ⟨b63, 1, none⟩)) (fun ρ101 w102 g hle hi ht => ?_) ?_
    ·
     obtain ⟨-, hst, -⟩ := hle
     refine StepOp_plain (op_fieldAddr ty73 rfl ty41 (by decide) (ht 6 rfl) (rfl : _ = (⟨_, 1, none⟩ : Addr)) ?_)
     exact Goes.same hi rfl
    refine Dw_eq (Value.slice a_y62_data ((d.pending.getD d.left.toNat default).data).length c_y62_data) (fun ρ104 w105 g hle hi ht => ?_) ?_
    ·
     obtain ⟨-, hst, -⟩ := hle
     have hsn := (Step.nx hi).1
     refine StepOp_plain (op_load (cs := [(Value.int .i64 ((d.pending.getD d.left.toNat default).at_)), (Value.slice a_y62_data ((d.pending.getD d.left.toNat default).data).length c_y62_data)]) (i := 1) ty41 hsn (ht 51 rfl) rfl rfl ?_)
     exact Goes.same hi rfl
    refine Dw_nil fun w111 g112 hl113 hi114 => ?_
    obtain ⟨-, hst115, -⟩ := hl113
    obtain ⟨hs117, p116⟩ := Step.nx hi114
    rintro _ rfl
    rintro _ rfl
    rintro _ rfl
    rintro _ rfl
    have p118 : Step (ks [(some b100, o87), (some b63, Obj.cells [(Value.int .i64 ((d.pending.getD d.left.toNat default).at_)), (Value.slice a_y62_data ((d.pending.getD d.left.toNat default).data).length c_y62_data)].toArray 73), (some b74, o49), (some b6, Obj.cells [(Value.slice (some ⟨b74, 0, none⟩) perform_1.length c47), (Value.slice none 0 0), (Value.int .i64 0), (Value.bool true)].toArray 25)] O) w80 (ks [(some b100, o87), (some b63, Obj.cells [(Value.int .i64 ((d.pending.getD d.left.toNat default).at_)), (Value.slice a_y62_data ((d.pending.getD d.left.toNat default).data).length c_y62_data)].toArray 73), (some b74, o49), (some b6, Obj.cells [(Value.slice (some ⟨b74, 0, none⟩) perform_1.length c47), (Value.slice none 0 0), (Value.int .i64 0), (Value.bool true)].toArray 25)] O) w111 := hst115.trans p116
    replace f51 := f51.step p118; replace f_y62_data := f_y62_data.step p118; replace f89 := f89.step p118; clear p118 hs83
    replace hm := ck_some hm; obtain ⟨hc119, hm⟩ := hm
    obtain ⟨ns120, he121, hr122⟩ := f_y62_data.src
    refine Rg_op rfl (op_copyW (p := rU8) (xs := clone_1) (i := 0) (l := 0) (h := 64) ty41 ty5 rfl hs117 rfl rfl f89 rfl he121 hr122 hc119 (by omega) ?_)
    intro o126 w123 p124 hs125 f127
    replace f51 := f51.step p124; replace f_y62_data := f_y62_data.step p124; clear p124 hs117
    have r128 : InK .i64 ((min ((d.pending.getD d.left.toNat default).data).length (64 - 0) : Nat) : Int) := inK_of (by have := f127.le; have hm : maxLen = 9223372036854775807 := rfl; simp at this ⊢; omega)
    refine Rg_nil ?_
    refine Wp_seq ?_
    refine Wp_region ?_
    refine Rg_op rfl (op_fieldAddr ty25 rfl ty22 (by decide) rfl (rfl : _ = (⟨_, 0, none⟩ : Addr)) ?_)
    refine Rg_op rfl (op_load (cs := [(Value.slice (some ⟨b74, 0, none⟩) perform_1.length c47), (Value.slice none 0 0), (Value.int .i64 0), (Value.bool true)]) (i := 3) ty22 hs125 rfl rfl rfl ?_)
    refine Rg_op rfl (op_fieldAddr ty73 rfl ty3 (by decide) rfl (rfl : _ = (⟨_, 0, none⟩ : Addr)) ?_)
    refine Rg_op rfl (op_load (cs := [(Value.int .i64 ((d.pending.getD d.left.toNat default).at_)), (Value.slice a_y62_data ((d.pending.getD d.left.toNat default).data).length c_y62_data)]) (i := 1) ty3 hs125 rfl rfl rfl ?_)
    refine Rg_op rfl (op_move (v := (Value.slice (some ⟨b100, 0, none⟩) (clone_1.take 0 ++ (((d.pending.getD d.left.toNat default).data).take (64 - 0) ++ (clone_1.drop 0).drop (min ((d.pending.getD d.left.toNat default).data).length (64 - 0)))).length c85)) (eqlen rfl (show clone_1.length = (clone_1.take 0 ++ (((d.pending.getD d.left.toNat default).data).take (64 - 0) ++ (clone_1.drop 0).drop (min ((d.pending.getD d.left.toNat default).data).length (64 - 0)))).length from by first | (simp; done) | (simp; omega))) ?_)
    replace hm := ck_some hm; obtain ⟨hc129, hm⟩ := hm
    refine Rg_op rfl (op_indexAddrG ty22 ty41 rfl rfl f51 hc129 ?_)
    rintro _ ⟨⟩ -
    obtain ⟨hs132, p133, f131⟩ := Gs.publish (i := 0) hs125 rfl f127
    replace f51 := f51.step p133; replace f_y62_data := f_y62_data.step p133; clear p133 hs125
    refine Rg_op_ (op_storeG (vs := [(Value.slice (some ⟨b100, 0, none⟩) (clone_1.take 0 ++ (((d.pending.getD d.left.toNat default).data).take (64 - 0) ++ (clone_1.drop 0).drop (min ((d.pending.getD d.left.toNat default).data).length (64 - 0)))).length c85)]) (i := 1) (m := (d.pending.getD d.left.toNat default).at_) ty41 rfl hs132 rfl rfl rfl rfl f51 hc129 (mk_sl f131) ?_)
    intro w134 o137 p135 hs136 f138
    replace f_y62_data := f_y62_data.step p135; replace f131 := f131.step p135; clear p135 hs132
    refine Rg_nil ?_
    refine Wp_seq ?_
    obtain ⟨hs139, p140⟩ := hs136.sub (bs' := [(some b74, o137), (some b6, Obj.cells [(Value.slice (some ⟨b74, 0, none⟩) perform_1.length c47), (Value.slice none 0 0), (Value.int .i64 0), (Value.bool true)].toArray 25)]) (.cons _ (.cons_cons _ (.cons_cons _ List.Sublist.slnil)))
    clear f_y62_data f131
    replace f138 := f138.step p140; clear p140 hs136
    refine Wp_region ?_
    refine Rg_op rfl (op_loadA (cs := [(Value.slice (some ⟨b74, 0, none⟩) perform_1.length c47), (Value.slice none 0 0), (Value.int .i64 0), (Value.bool true)]) (vs := [(Value.slice (some ⟨b74, 0, none⟩) perform_1.length c47), (Value.slice none 0 0), (Value.int .i64 0), (Value.bool true)]) (i := 1) ty25 hs139 rfl rfl rfl rfl ?_)
    refine Rg_op_ (op_store (cs := [(Value.slice (some ⟨b74, 0, none⟩) perform_1.length c47), (Value.slice none 0 0), (Value.int .i64 0), (Value.bool true)]) (vs := [(Value.slice (some ⟨b74, 0, none⟩) perform_1.length c47), (Value.slice none 0 0), (Value.int .i64 0), (Value.bool true)]) (cs' := [(Value.slice (some ⟨b74, 0, none⟩) perform_1.length c47), (Value.slice none 0 0), (Value.int .i64 0), (Value.bool true)]) (bs' := [(some b74, o137), (some b6, Obj.cells [(Value.slice (some ⟨b74, 0, none⟩) perform_1.length c47), (Value.slice none 0 0), (Value.int .i64 0), (Value.bool true)].toArray 25)]) (i := 1) ty25 hs139 rfl rfl rfl rfl rfl (le_lit rfl) rfl rfl rfl ?_)
    intro w141 p142 hs143
    replace f138 := f138.step p142; clear p142 hs139
    refine Rg_op rfl (op_assign (v := (Value.int .i64 440)) rfl ?_)
    refine Rg_nil ?_
    refine Wp_ret ?_
    obtain ⟨hs145, p146, f144⟩ := Gs.publish (i := 0) hs143 rfl f138
    clear p146 hs143
    have hz := step_all hs145
    replace f144 := f144.step hz
    refine ⟨_, (show Closes [] _ _ from rfl), [(Value.agg [(Value.slice (some ⟨b74, 0, none⟩) perform_1.length c47), (Value.slice none 0 0), (Value.int .i64 0), (Value.bool true)].toArray), (Value.int .i64 440)], ⟨resA (cs := [(Value.slice (some ⟨b74, 0, none⟩) perform_1.length c47), (Value.slice none 0 0), (Value.int .i64 0), (Value.bool true)]) (vs := [(Value.slice (some ⟨b74, 0, none⟩) perform_1.length c47), (Value.slice none 0 0), (Value.int .i64 0), (Value.bool true)]) ty25 (i := 0) hs145 rfl rfl rfl rfl, rfl, trivial⟩, hs145.ext, ?_⟩
    exact Vr.eq (a := (vT2 (vA rXDisk) (vI .i64))) (x := ((⟨(perform_1.set ((d.pending.getD d.left.toNat default).at_).toNat (clone_1.take 0 ++ (((d.pending.getD d.left.toNat default).data).take (64 - 0) ++ (clone_1.drop 0).drop (min ((d.pending.getD d.left.toNat default).data).length (64 - 0))))), ([] : List XWrite), 0, true⟩ : XDisk), 440)) (mkT2 (mkA (mkVia (mk_pair (mk_slL (show perform_1.length = (perform_1.set ((d.pending.getD d.left.toNat default).at_).toNat (clone_1.take 0 ++ (((d.pending.getD d.left.toNat default).data).take (64 - 0) ++ (clone_1.drop 0).drop (min ((d.pending.getD d.left.toNat default).data).length (64 - 0))))).length from by first | (simp; done) | (simp; omega)) f144) (mk_pair (mk_sl SlR.nil_) (mk_pair (mk_int (show InK .i64 0 from by decide)) mkBool))))) ⟨rfl, (show InK .i64 440 from by decide)⟩) (Option.some.inj hm)
   ·
    replace hm := bif_f hm hc36
    refine Wp_skip ?_
    refine Wp_seq ?_
    refine Wp_drawR (g0 := []) (m := 7) (fl := []) (TS_inv hs32) rfl (.inl rfl) rfl (by decide +kernel) ?_  -- 12
    refine Dw_eq (Value.pointer (some ⟨b1, 0, none⟩)) (fun ρ147 w148 g hle hi ht => ?_) ?_
    ·
     obtain ⟨-, hst, -⟩ := hle
     refine StepOp_plain (op_fieldAddr ty25 rfl ty22 (by decide) (ht 1 rfl) (rfl : _ = (⟨_, 0, none⟩ : Addr)) ?_)
     exact Goes.same hi rfl
    refine Dw_eq (Value.slice a_d_sectors d.sectors.length c_d_sectors) (fun ρ150 w151 g hle hi ht => ?_) ?_
    ·
     obtain ⟨-, hst, -⟩ := hle
     have hsn := (Step.nx hi).1
     refine StepOp_plain (op_load (cs := [(Value.slice a_d_sectors d.sectors.length c_d_sectors), (Value.slice a_d_pending d.pending.length c_d_pending), (Value.int .i64 d.left), (Value.bool d.stopped)]) (i := 1) ty22 hsn (ht 61 rfl) rfl rfl ?_)
     exact Goes.same hi rfl
    refine Dw_eq (Value.pointer (some ⟨b1, 1, none⟩)) (fun ρ153 w154 g hle hi ht => ?_) ?_
    ·
     obtain ⟨-, hst, -⟩ := hle
     refine StepOp_plain (op_fieldAddr ty25 rfl ty23 (by decide) (ht 1 rfl) (rfl : _ = (⟨_, 1, none⟩ : Addr)) ?_)
     exact Goes.same hi rfl
    refine Dw_eq (Value.slice a_d_pending d.pending.length c_d_pending) (fun ρ156 w157 g hle hi ht => ?_) ?_
    ·
     obtain ⟨-, hst, -⟩ := hle
     have hsn := (Step.nx hi).1
     refine StepOp_plain (op_load (cs := [(Value.slice a_d_sectors d.sectors.length c_d_sectors), (Value.slice a_d_pending d.pending.length c_d_pending), (Value.int .i64 d.left), (Value.bool d.stopped)]) (i := 1) ty23 hsn (ht 63 rfl) rfl rfl ?_)
     exact Goes.same hi rfl
    replace hm := bd hm; obtain ⟨perform_2, hv162, hm⟩ := hm
    refine Dw_op (VD O [(some b6, Obj.cells [(Value.slice none 0 0), (Value.slice none 0 0), (Value.int .i64 0), (Value.bool false)].toArray 25), (some b1, Obj.cells [(Value.slice a_d_sectors d.sectors.length c_d_sectors), (Value.slice a_d_pending d.pending.length c_d_pending), (Value.int .i64 d.left), (Value.bool d.stopped)].toArray 25)] (vC (rSl (rSl rU8))) perform_2) (VD.stab _ _) (fun ρ159 w160 g hle hi ht => ?_) ?_
    ·
     obtain ⟨-, hst, -⟩ := hle
     replace f_d_sectors := f_d_sectors.step hst; replace f_d_pending := f_d_pending.step hst
     refine StepOp_plain (op_call Try.call51 (c51_disk_perform (O := ks (ents g ++ [(some b6, Obj.cells [(Value.slice none 0 0), (Value.slice none 0 0), (Value.int .i64 0), (Value.bool false)].toArray 25), (some b1, Obj.cells [(Value.slice a_d_sectors d.sectors.length c_d_sectors), (Value.slice a_d_pending d.pending.length c_d_pending), (Value.int .i64 d.left), (Value.bool d.stopped)].toArray 25)]) O) (sectors := d.sectors) (l := d.pending) hi.ltw f_d_sectors f_d_pending hv162) (by simp only [List.map, Array.toList, (show ev _ (.tmp 62) = _ from (ht 62 rfl)), (show ev _ (.tmp 64) = _ from (ht 64 rfl))] <;> rfl) ?_)
     rintro v163 w164 ⟨hx165, h166⟩
     exact Goes.call hi hx165 h166
    refine Dw_eq (Value.pointer (some ⟨b1, 2, none⟩)) (fun ρ168 w169 g hle hi ht => ?_) ?_
    ·
     obtain ⟨-, hst, -⟩ := hle
     refine StepOp_plain (op_fieldAddr ty25 rfl ty3 (by decide) (ht 1 rfl) (rfl : _ = (⟨_, 2, none⟩ : Addr)) ?_)
     exact Goes.same hi rfl
    refine Dw_eq (Value.int .i64 d.left) (fun ρ171 w172 g hle hi ht => ?_) ?_
    ·
     obtain ⟨-, hst, -⟩ := hle
     have hsn := (Step.nx hi).1
     refine StepOp_plain (op_load (cs := [(Value.slice a_d_sectors d.sectors.length c_d_sectors), (Value.slice a_d_pending d.pending.length c_d_pending), (Value.int .i64 d.left), (Value.bool d.stopped)]) (i := 1) ty3 hsn (ht 66 rfl) rfl rfl ?_)
     exact Goes.same hi rfl
    refine Dw_nil fun w178 g179 hl180 hi181 => ?_
    obtain ⟨-, hst182, -⟩ := hl180
    obtain ⟨hs184, p183⟩ := Step.nx hi181
    rintro _ rfl
    rintro _ rfl
    rintro v185 h186
    replace h186 : Vr.vd (vC (rSl (rSl rU8))) _ _ _ _ := h186
    obtain ⟨a_y187, c_y187, rfl, f_y187⟩ := un_sl h186
    rintro _ rfl
    rintro _ rfl
    rintro _ rfl
    rintro _ rfl
    have p188 : Step (ks [(some b6, Obj.cells [(Value.slice none 0 0), (Value.slice none 0 0), (Value.int .i64 0), (Value.bool false)].toArray 25), (some b1, Obj.cells [(Value.slice a_d_sectors d.sectors.length c_d_sectors), (Value.slice a_d_pending d.pending.length c_d_pending), (Value.int .i64 d.left), (Value.bool d.stopped)].toArray 25)] O) w31 (ks [(some b6, Obj.cells [(Value.slice none 0 0), (Value.slice none 0 0), (Value.int .i64 0), (Value.bool false)].toArray 25), (some b1, Obj.cells [(Value.slice a_d_sectors d.sectors.length c_d_sectors), (Value.slice a_d_pending d.pending.length c_d_pending), (Value.int .i64 d.left), (Value.bool d.stopped)].toArray 25)] O) w178 := hst182.trans p183
    replace f_y187 := f_y187.step p183; replace f_d_sectors := f_d_sectors.step p188; replace f_d_pending := f_d_pending.step p188; clear p188 hs32
    refine Rg_op rfl (op_build (vs := [(Value.slice a_y187 perform_2.length c_y187), (Value.slice none 0 0), (Value.int .i64 d.left), (Value.bool false)]) (parts := [(0, .tmp 65), (2, .tmp 67)]) ty25 pl25 rfl ?_)
    refine Rg_op_ (op_store (cs := [(Value.slice none 0 0), (Value.slice none 0 0), (Value.int .i64 0), (Value.bool false)]) (vs := [(Value.slice a_y187 perform_2.length c_y187), (Value.slice none 0 0), (Value.int .i64 d.left), (Value.bool false)]) (cs' := [(Value.slice a_y187 perform_2.length c_y187), (Value.slice none 0 0), (Value.int .i64 d.left), (Value.bool false)]) (bs' := [(some b6, Obj.cells [(Value.slice a_y187 perform_2.length c_y187), (Value.slice none 0 0), (Value.int .i64 d.left), (Value.bool false)].toArray 25), (some b1, Obj.cells [(Value.slice a_d_sectors d.sectors.length c_d_sectors), (Value.slice a_d_pending d.pending.length c_d_pending), (Value.int .i64 d.left), (Value.bool d.stopped)].toArray 25)]) (i := 0) ty25 hs184 rfl rfl rfl rfl rfl (le_lit rfl) rfl rfl rfl ?_)
    intro w189 p190 hs191
    replace f_d_sectors := f_d_sectors.step p190; replace f_d_pending := f_d_pending.step p190; replace f_y187 := f_y187.step p190; clear p190 hs184
    refine Rg_nil ?_
    refine Wp_seq ?_
    refine Wp_seq ?_
    obtain ⟨hs192, p193⟩ := hs191.sub (bs' := [(some b6, Obj.cells [(Value.slice a_y187 perform_2.length c_y187), (Value.slice none 0 0), (Value.int .i64 d.left), (Value.bool false)].toArray 25)]) (.cons_cons _ (.cons _ List.Sublist.slnil))
    clear f_d_sectors f_d_pending
    replace f_y187 := f_y187.step p193; clear p193 hs191
    refine Wp_region ?_
    refine Rg_op rfl (op_fieldAddr ty25 rfl ty3 (by decide) rfl (rfl : _ = (⟨_, 2, none⟩ : Addr)) ?_)
    refine Rg_op rfl (op_load (cs := [(Value.slice a_y187 perform_2.length c_y187), (Value.slice none 0 0), (Value.int .i64 d.left), (Value.bool false)]) (i := 0) ty3 hs192 rfl rfl rfl ?_)
    refine Rg_op rfl (op_geq rfl rfl ?_)
    refine Rg_nil ?_
    refine Wp_cond rfl (fun hc194 => ?_) (fun hc194 => ?_)
    ·
     replace hm := bif_t hm hc194
     refine Wp_region ?_
     refine Rg_op rfl (op_fieldAddr ty25 rfl ty3 (by decide) rfl (rfl : _ = (⟨_, 2, none⟩ : Addr)) ?_)
     refine Rg_op rfl (op_load (cs := [(Value.slice a_y187 perform_2.length c_y187), (Value.slice none 0 0), (Value.int .i64 d.left), (Value.bool false)]) (i := 0) ty3 hs192 rfl rfl rfl ?_)
     refine Rg_op rfl (op_move (v := (Value.int .i64 (d.pending.length : Int))) rfl ?_)
     refine Rg_op rfl (op_subw rfl rfl ?_)
     refine Rg_op rfl (op_fieldAddr ty25 rfl ty3 (by decide) rfl (rfl : _ = (⟨_, 2, none⟩ : Addr)) ?_)
     refine Rg_op_ (op_store (cs := [(Value.slice a_y187 perform_2.length c_y187), (Value.slice none 0 0), (Value.int .i64 d.left), (Value.bool false)]) (vs := [(Value.int .i64 (IntKind.wrap .i64 (d.left - (d.pending.length : Int))))]) (cs' := [(Value.slice a_y187 perform_2.length c_y187), (Value.slice none 0 0), (Value.int .i64 (IntKind.wrap .i64 (d.left - (d.pending.length : Int)))), (Value.bool false)]) (bs' := [(some b6, Obj.cells [(Value.slice a_y187 perform_2.length c_y187), (Value.slice none 0 0), (Value.int .i64 (IntKind.wrap .i64 (d.left - (d.pending.length : Int)))), (Value.bool false)].toArray 25)]) (i := 0) ty3 hs192 rfl rfl rfl rfl rfl (le_lit rfl) rfl rfl rfl ?_)
     intro w195 p196 hs197
     replace f_y187 := f_y187.step p196; clear p196 hs192
     refine Rg_nil ?_
     refine Wp_seq ?_
     refine Wp_region ?_
     refine Rg_op rfl (op_loadA (cs := [(Value.slice a_y187 perform_2.length c_y187), (Value.slice none 0 0), (Value.int .i64 (IntKind.wrap .i64 (d.left - (d.pending.length : Int)))), (Value.bool false)]) (vs := [(Value.slice a_y187 perform_2.length c_y187), (Value.slice none 0 0), (Value.int .i64 (IntKind.wrap .i64 (d.left - (d.pending.length : Int)))), (Value.bool false)]) (i := 0) ty25 hs197 rfl rfl rfl rfl ?_)
     refine Rg_op_ (op_store (cs := [(Value.slice a_y187 perform_2.length c_y187), (Value.slice none 0 0), (Value.int .i64 (IntKind.wrap .i64 (d.left - (d.pending.length : Int)))), (Value.bool false)]) (vs := [(Value.slice a_y187 perform_2.length c_y187), (Value.slice none 0 0), (Value.int .i64 (IntKind.wrap .i64 (d.left - (d.pending.length : Int)))), (Value.bool false)]) (cs' := [(Value.slice a_y187 perform_2.length c_y187), (Value.slice none 0 0), (Value.int .i64 (IntKind.wrap .i64 (d.left - (d.pending.length : Int)))), (Value.bool false)]) (bs' := [(some b6, Obj.cells [(Value.slice a_y187 perform_2.length c_y187), (Value.slice none 0 0), (Value.int .i64 (IntKind.wrap .i64 (d.left - (d.pending.length : Int)))), (Value.bool false)].toArray 25)]) (i := 0) ty25 hs197 rfl rfl rfl rfl rfl (le_lit rfl) rfl rfl rfl ?_)
     intro w198 p199 hs200
     replace f_y187 := f_y187.step p199; clear p199 hs197
     refine Rg_op rfl (op_assign (v := (Value.int .i64 0)) rfl ?_)
     refine Rg_nil ?_
     refine Wp_ret ?_
     have hz := step_all hs200
     replace f_y187 := f_y187.step hz
     refine ⟨_, (show Closes [] _ _ from rfl), [(Value.agg [(Value.slice a_y187 perform_2.length c_y187), (Value.slice none 0 0), (Value.int .i64 (IntKind.wrap .i64 (d.left - (d.pending.length : Int)))), (Value.bool false)].toArray), (Value.int .i64 0)], ⟨resA (cs := [(Value.slice a_y187 perform_2.length c_y187), (Value.slice none 0 0), (Value.int .i64 (IntKind.wrap .i64 (d.left - (d.pending.length : Int)))), (Value.bool false)]) (vs := [(Value.slice a_y187 perform_2.length c_y187), (Value.slice none 0 0), (Value.int .i64 (IntKind.wrap .i64 (d.left - (d.pending.length : Int)))), (Value.bool false)]) ty25 (i := 0) hs200 rfl rfl rfl rfl, rfl, trivial⟩, hs200.ext, ?_⟩
     exact Vr.eq (a := (vT2 (vA rXDisk) (vI .i64))) (x := ((⟨perform_2, ([] : List XWrite), (IntKind.wrap .i64 (d.left - (d.pending.length : Int))), false⟩ : XDisk), 0)) (mkT2 (mkA (mkVia (mk_pair (mk_sl f_y187) (mk_pair (mk_sl SlR.nil_) (mk_pair (mk_int (inK_wrap .i64 _)) mkBool))))) ⟨rfl, (show InK .i64 0 from by decide)⟩) (Option.some.inj hm)
    ·
     replace hm := bif_f hm hc194
     refine Wp_skip ?_
     refine Wp_seq ?_
     refine Wp_region ?_
     refine Rg_op rfl (op_loadA (cs := [(Value.slice a_y187 perform_2.length c_y187), (Value.slice none 0 0), (Value.int .i64 d.left), (Value.bool false)]) (vs := [(Value.slice a_y187 perform_2.length c_y187), (Value.slice none 0 0), (Value.int .i64 d.left), (Value.bool false)]) (i := 0) ty25 hs192 rfl rfl rfl rfl ?_)
     refine Rg_op_ (op_store (cs := [(Value.slice a_y187 perform_2.length c_y187), (Value.slice none 0 0), (Value.int .i64 d.left), (Value.bool false)]) (vs := [(Value.slice a_y187 perform_2.length c_y187), (Value.slice none 0 0), (Value.int .i64 d.left), (Value.bool false)]) (cs' := [(Value.slice a_y187 perform_2.length c_y187), (Value.slice none 0 0), (Value.int .i64 d.left), (Value.bool false)]) (bs' := [(some b6, Obj.cells [(Value.slice a_y187 perform_2.length c_y187), (Value.slice none 0 0), (Value.int .i64 d.left), (Value.bool false)].toArray 25)]) (i := 0) ty25 hs192 rfl rfl rfl rfl rfl (le_lit rfl) rfl rfl rfl ?_)
     intro w201 p202 hs203
     replace f_y187 := f_y187.step p202; clear p202 hs192
     refine Rg_op rfl (op_assign (v := (Value.int .i64 0)) rfl ?_)
     refine Rg_nil ?_
     refine Wp_ret ?_
     have hz := step_all hs203
     replace f_y187 := f_y187.step hz
     refine ⟨_, (show Closes [] _ _ from rfl), [(Value.agg [(Value.slice a_y187 perform_2.length c_y187), (Value.slice none 0 0), (Value.int .i64 d.left), (Value.bool false)].toArray), (Value.int .i64 0)], ⟨resA (cs := [(Value.slice a_y187 perform_2.length c_y187), (Value.slice none 0 0), (Value.int .i64 d.left), (Value.bool false)]) (vs := [(Value.slice a_y187 perform_2.length c_y187), (Value.slice none 0 0), (Value.int .i64 d.left), (Value.bool false)]) ty25 (i := 0) hs203 rfl rfl rfl rfl, rfl, trivial⟩, hs203.ext, ?_⟩
     exact Vr.eq (a := (vT2 (vA rXDisk) (vI .i64))) (x := ((⟨perform_2, ([] : List XWrite), d.left, false⟩ : XDisk), 0)) (mkT2 (mkA (mkVia (mk_pair (mk_sl f_y187) (mk_pair (mk_sl SlR.nil_) (mk_pair (mk_int r_d_left) mkBool))))) ⟨rfl, (show InK .i64 0 from by decide)⟩) (Option.some.inj hm)
  ·
   intro K30 hK30
   have ch204 := Step.refl (ks [(some b6, Obj.cells [(Value.slice none 0 0), (Value.slice none 0 0), (Value.int .i64 0), (Value.bool false)].toArray 25), (some b1, Obj.cells [(Value.slice a_d_sectors d.sectors.length c_d_sectors), (Value.slice a_d_pending d.pending.length c_d_pending), (Value.int .i64 d.left), (Value.bool d.stopped)].toArray 25)] O) w13
   refine Wp_region ?_
   refine Rg_op rfl (op_fieldAddr ty25 rfl ty3 (by decide) rfl (rfl : _ = (⟨_, 2, none⟩ : Addr)) ?_)
   refine Rg_op rfl (op_load (cs := [(Value.slice a_d_sectors d.sectors.length c_d_sectors), (Value.slice a_d_pending d.pending.length c_d_pending), (Value.int .i64 d.left), (Value.bool d.stopped)]) (i := 1) ty3 hs16 rfl rfl rfl ?_)
   refine Rg_op rfl (op_geq rfl rfl ?_)
   refine Rg_op rfl (op_move (v := (Value.bool (decide (0 ≤ d.left)))) rfl ?_)
   refine Rg_case (fun hg205 => ?_) (fun hg205 => ?_)
   ·
    replace hm := bif_t hm hg205
    refine Rg_opg rfl rfl rfl (op_fieldAddr ty25 rfl ty3 (by decide) rfl (rfl : _ = (⟨_, 2, none⟩ : Addr)) ?_)
    refine Rg_opg rfl rfl rfl (op_load (cs := [(Value.slice a_d_sectors d.sectors.length c_d_sectors), (Value.slice a_d_pending d.pending.length c_d_pending), (Value.int .i64 d.left), (Value.bool d.stopped)]) (i := 1) ty3 hs16 rfl rfl rfl ?_)
    refine Rg_opg rfl rfl rfl (op_move (v := (Value.int .i64 (d.pending.length : Int))) rfl ?_)
    refine Rg_opg rfl rfl rfl (op_lss rfl rfl ?_)
    refine Rg_op rfl (op_pick_t (v := (Value.bool (decide (d.left < (d.pending.length : Int))))) rfl rfl ?_)
    refine Rg_nil ?_
    exact hK30 _ _ ⟨(decide (d.left < (d.pending.length : Int))), _, rfl, ⟨(by repeat (first | with_reducible exact Out.refl _ _ | refine Out.upd ?_ rfl | refine Out.updL ?_ rfl | refine Out.mix' ?_ rfl | exact Out.refl _ _)), rfl, rfl, trivial⟩, ch204, hs16, hm⟩
   ·
    replace hm := bif_f hm hg205
    iterate 4 refine Rg_opx rfl (asB_ne rfl rfl) rfl ?_
    refine Rg_op rfl (op_pick_f (v := (Value.bool false)) rfl rfl ?_)
    refine Rg_nil ?_
    exact hK30 _ _ ⟨false, _, rfl, ⟨(by repeat (first | with_reducible exact Out.refl _ _ | refine Out.upd ?_ rfl | refine Out.updL ?_ rfl | refine Out.mix' ?_ rfl | exact Out.refl _ _)), rfl, rfl, trivial⟩, ch204, hs16, hm⟩

end Go.Fx



set_option linter.unusedVariables false
set_option linter.unusedSimpArgs false
set_option maxRecDepth 100000
set_option maxHeartbeats 0
namespace Go.Fx
open Go Go.RowKit Go.Proofs
def m61_slices_EqualFuncbyte_byte_byte_byte__B0 (s1_ : List (List UInt8)) (s2_ : List (List UInt8)) (eq : (List UInt8) → (List UInt8) → Option Bool) (sf7 : Int → Option Bool) (v_1 : Int) : Option Bool :=
 bif (decide (v_1 < (s1_.length : Int))) then
  ck ((0 : Int) ≤ v_1 ∧ v_1 < (s1_.length : Int)) <|
  ck ((0 : Int) ≤ v_1 ∧ v_1 < (s2_.length : Int)) <|
  (eq (s1_.getD v_1.toNat default) (s2_.getD v_1.toNat default)).bind fun r_1 =>
  bif (!r_1) then
   some false
  else
   sf7 (IntKind.wrap .i64 (v_1 + 1))
 else
  some true

def m61_slices_EqualFuncbyte_byte_byte_byte_ (s1_ : List (List UInt8)) (s2_ : List (List UInt8)) (eq : (List UInt8) → (List UInt8) → Option Bool) : Option Bool :=
 bif (decide ((s1_.length : Int) ≠ (s2_.length : Int))) then
  some false
 else
  loop1 (m61_slices_EqualFuncbyte_byte_byte_byte__B0 s1_ s2_ eq) (((s1_.length : Int) - 0).toNat + 1) 0

theorem c61_slices_EqualFuncbyte_byte_byte_byte_ {w : World} {O : List Nat} {s1_ : List (List UInt8)} {s2_ : List (List UInt8)} {eq : (List UInt8) → (List UInt8) → Option Bool} {a_s1_ : Option Addr} {c_s1_ : Nat} {a_s2_ : Option Addr} {c_s2_ : Nat} {v_eq : Value} (hO : ∀ k ∈ O, k < w.heap.size) (f_s1_ : SlR (rSl rU8) w O a_s1_ c_s1_ s1_) (f_s2_ : SlR (rSl rU8) w O a_s2_ c_s2_ s2_) (F_eq : CallsTo2 Try.prog w O v_eq (vC (rSl rU8)) (vC (rSl rU8)) vB eq) {x : Bool} (hm : m61_slices_EqualFuncbyte_byte_byte_byte_ s1_ s2_ eq = some x) :
  Ok Try.prog 61 [(Value.slice a_s1_ s1_.length c_s1_), (Value.slice a_s2_ s2_.length c_s2_), v_eq] w O vB x := by
 unfold m61_slices_EqualFuncbyte_byte_byte_byte_ at hm
 refine Fn_of_Wp (n := 32) (xs := [.tmp 6]) Try.func61 rfl Try.ntmps61 Try.results61 rfl ?_
 have hs := St.start hO
 refine Wp_seq ?_
 refine Wp_region ?_
 refine Rg_op rfl (op_assign (v := (Value.bool false)) rfl ?_)
 refine Rg_nil ?_
 refine Wp_seq ?_
 refine Wp_seq ?_
 refine Wp_region ?_
 refine Rg_op rfl (op_move (v := (Value.slice a_s1_ s1_.length c_s1_)) rfl ?_)
 refine Rg_op rfl (op_len Try.underlying22 rfl ?_)
 have rl1 := inK_len f_s1_
 refine Rg_op rfl (op_move (v := (Value.slice a_s2_ s2_.length c_s2_)) rfl ?_)
 refine Rg_op rfl (op_len Try.underlying22 rfl ?_)
 have rl2 := inK_len f_s2_
 refine Rg_op rfl (op_neq rfl rfl ?_)
 refine Rg_nil ?_
 refine Wp_cond rfl (fun hc3 => ?_) (fun hc3 => ?_)
 ·
  replace hm := bif_t hm hc3
  refine Wp_seq ?_
  clear f_s1_ f_s2_ F_eq
  refine Wp_region ?_
  refine Rg_op rfl (op_assign (v := (Value.bool false)) rfl ?_)
  refine Rg_nil ?_
  refine Wp_ret ?_
  have hz := step_all hs
  refine ⟨_, (show Closes [] _ _ from rfl), [(Value.bool false)], ⟨rfl, trivial⟩, hs.ext, ?_⟩
  exact Vr.eq (a := vB) (x := false) rfl (Option.some.inj hm)
 ·
  replace hm := bif_f hm hc3
  refine Wp_skip ?_
  refine Wp_seq ?_
  refine Wp_seq ?_
  refine Wp_region ?_
  refine Rg_op rfl (op_move (v := (Value.slice a_s1_ s1_.length c_s1_)) rfl ?_)
  refine Rg_op rfl (op_len Try.underlying22 rfl ?_)
  have rl4 := inK_len f_s1_
  refine Rg_op rfl (op_move (v := (Value.int .i64 0)) rfl ?_)
  refine Rg_nil ?_
  refine Wp_block ?_
  refine Wp_reset [] [(1, (Value.slice a_s2_ s2_.length c_s2_)), (2, v_eq), (15, (Value.slice a_s1_ s1_.length c_s1_)), (16, (Value.int .i64 (s1_.length : Int))), (17, (Value.int .i64 0))] rfl ⟨rfl, rfl, rfl, rfl, rfl, trivial⟩ fun ξ6 => ?_
  refine Wp_loopM [6, 7, 8, 9, 17, 18, 19, 20, 21, 22, 23, 24, 25, 26, 27, 28, 29, 30, 31] (fun m fr w' => ∃ (v_1 : Int) (Ebs : Ents), Ebs = [] ∧ fr [] [(17, (Value.int .i64 v_1))] ∧ Step (ks [] O) w (ks Ebs O) w' ∧ St ⟨w, [], []⟩ O w' Ebs ∧ InK .i64 v_1 ∧ loop1 (m61_slices_EqualFuncbyte_byte_byte_byte__B0 s1_ s2_ eq) m v_1 = some x) (((s1_.length : Int) - 0).toNat + 1) ⟨0, _, rfl, ⟨Out.refl _ _, rfl, rfl, trivial⟩, Step.refl _ _, hs, (show InK .i64 0 from by decide), hm⟩ ?_ ?_
  · rintro _ _ ⟨_, _, _, _, _, _, _, hm⟩; exact loop1_z hm
  ·
   rintro m10 K9 hK9 ρ15 w11 ⟨v_1, Ebs, hEbs, hfr14, hst13, hs12, r_y5, hm⟩
   obtain ⟨sf7, hsf8, hm⟩ := loop1_s hm; unfold m61_slices_EqualFuncbyte_byte_byte_byte__B0 at hm
   subst hEbs; rw [hfr14.eq]; clear hfr14
   replace f_s1_ := f_s1_.step hst13; replace f_s2_ := f_s2_.step hst13; replace F_eq := F_eq.step hst13
   have ch16 := hst13
   refine Wp_seq ?_
   refine Wp_region ?_
   refine Rg_op rfl (op_lss rfl rfl ?_)
   refine Rg_nil ?_
   refine Wp_seq ?_
   refine Wp_cond rfl (fun hc17 => ?_) (fun hc17 => ?_)
   ·
    replace hm := bif_t hm hc17
    refine Wp_skip ?_
    refine Wp_seq ?_
    refine Wp_block ?_
    refine Wp_seq ?_
    refine Wp_region ?_
    refine Rg_op rfl (op_move (v := (Value.int .i64 v_1)) rfl ?_)
    replace hm := ck_some hm; obtain ⟨hc18, hm⟩ := hm
    refine Rg_op rfl (op_indexAddr (q := (rSl rU8)) ty22 ty41 rfl rfl f_s1_ rfl hc18.1 hc18.2 ?_)
    intro p19 f20
    refine Rg_op rfl (op_loadP ty41 rfl f20 rfl ?_)
    intro v21 h22
    obtain ⟨a_y23, c_y23, rfl, f_y23⟩ := un_sl h22
    refine Rg_op rfl (op_assign (v := (Value.int .i64 v_1)) rfl ?_)
    refine Rg_op rfl (op_assign (v := (Value.slice a_y23 (s1_.getD v_1.toNat default).length c_y23)) rfl ?_)
    refine Rg_nil ?_
    refine Wp_seq ?_
    clear f20
    refine Wp_region ?_
    refine Rg_op rfl (op_move (v := (Value.slice a_s2_ s2_.length c_s2_)) rfl ?_)
    refine Rg_op rfl (op_move (v := (Value.int .i64 v_1)) rfl ?_)
    replace hm := ck_some hm; obtain ⟨hc24, hm⟩ := hm
    refine Rg_op rfl (op_indexAddr (q := (rSl rU8)) ty22 ty41 rfl rfl f_s2_ rfl hc24.1 hc24.2 ?_)
    intro p25 f26
    refine Rg_op rfl (op_loadP ty41 rfl f26 rfl ?_)
    intro v27 h28
    obtain ⟨a_y29, c_y29, rfl, f_y29⟩ := un_sl h28
    refine Rg_op rfl (op_assign (v := (Value.slice a_y29 (s2_.getD v_1.toNat default).length c_y29)) rfl ?_)
    refine Rg_nil ?_
    refine Wp_seq ?_
    clear f26
    refine Wp_region ?_
    refine Rg_op rfl (op_move (v := v_eq) rfl ?_)
    refine Rg_op rfl (op_move (v := (Value.slice a_y23 (s1_.getD v_1.toNat default).length c_y23)) rfl ?_)
    refine Rg_op rfl (op_move (v := (Value.slice a_y29 (s2_.getD v_1.toNat default).length c_y29)) rfl ?_)
    replace hm := bd hm; obtain ⟨r_1, hv30, hm⟩ := hm
    refine Rg_op rfl (op_callF rfl (F_eq.call hs12.ltw (mkC (mk_sl f_y23)) (mkC (mk_sl f_y29)) hv30) rfl ?_)
    rintro v31 w32 ⟨hx33, h34⟩
    have hs35 := hs12.call hx33
    have p36 := Step.ext (O := ks [] O) hx33
    clear hx33
    replace f_s1_ := f_s1_.step p36; replace f_s2_ := f_s2_.step p36; replace F_eq := F_eq.step p36; replace f_y23 := f_y23.step p36; replace f_y29 := f_y29.step p36; replace ch16 := ch16.trans p36; clear p36 hs12
    obtain rfl := h34
    refine Rg_op rfl (op_not rfl ?_)
    refine Rg_nil ?_
    refine Wp_cond rfl (fun hc38 => ?_) (fun hc38 => ?_)
    ·
     replace hm := bif_t hm hc38
     refine Wp_seq ?_
     clear f_s1_ f_s2_ F_eq f_y23 f_y29
     refine Wp_region ?_
     refine Rg_op rfl (op_assign (v := (Value.bool false)) rfl ?_)
     refine Rg_nil ?_
     refine Wp_ret ?_
     have hz := step_all hs35
     refine ⟨_, (show Closes [] _ _ from rfl), [(Value.bool false)], ⟨rfl, trivial⟩, hs35.ext, ?_⟩
     exact Vr.eq (a := vB) (x := false) rfl (Option.some.inj hm)
    ·
     replace hm := bif_f hm hc38
     refine Wp_skip ?_
     clear f_y23 f_y29
     refine Wp_region ?_
     refine Rg_op rfl (op_addw rfl rfl ?_)
     refine Rg_op rfl (op_move (v := (Value.int .i64 (IntKind.wrap .i64 (v_1 + 1)))) rfl ?_)
     refine Rg_nil ?_
     exact hK9 _ _ ⟨(IntKind.wrap .i64 (v_1 + 1)), _, rfl, ⟨(by repeat (first | with_reducible exact Out.refl _ _ | refine Out.upd ?_ rfl | refine Out.updL ?_ rfl | refine Out.mix' ?_ rfl | exact Out.refl _ _)), rfl, rfl, trivial⟩, ch16, hs35, (inK_wrap .i64 _), jnE1 hsf8 hm⟩
   ·
    replace hm := bif_f hm hc17
    refine Wp_exit ?_
    refine Wp_seq ?_
    clear f_s1_ f_s2_ F_eq
    refine Wp_region ?_
    refine Rg_op rfl (op_assign (v := (Value.bool true)) rfl ?_)
    refine Rg_nil ?_
    refine Wp_ret ?_
    have hz := step_all hs12
    refine ⟨_, (show Closes [] _ _ from rfl), [(Value.bool true)], ⟨rfl, trivial⟩, hs12.ext, ?_⟩
    exact Vr.eq (a := vB) (x := true) rfl (Option.some.inj hm)

end Go.Fx


