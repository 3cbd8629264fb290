/- Part 3 of the proof: the order in which volumes and sectors are listed changes no step, nothing that is reached and no sector of a volume, for every airspace. -/
import Derived.Test.YtolafciahogceaaOrder2
set_option linter.unusedVariables false
set_option linter.unusedSimpArgs false
set_option maxRecDepth 100000
set_option maxHeartbeats 0
namespace Go.Fx
open Go Go.RowKit Go.Proofs
def m34_configs_distances_B1 (v_1 : List Int) (sf119 : (List Int) → (List Int) → Option (List Int)) (xi110 : Int) (v_3 : List Int) (v_4 : List Int) : Option (List Int) :=
 ck ((0 : Int) ≤ xi110 ∧ xi110 < (v_4.length : Int)) <|
 bif (decide (0 ≤ (v_4.getD xi110.toNat default))) then
  sf119 v_3 v_4
 else
  ck ((0 : Int) ≤ (v_1.getD 0 default) ∧ (v_1.getD 0 default) < (v_4.length : Int)) <|
  ck ((0 : Int) ≤ xi110 ∧ xi110 < (v_4.length : Int)) <|
  ck ((v_3.length + [xi110].length) * 8 ≤ 140737488355328) <|
  sf119 (v_3 ++ [xi110]) (v_4.set xi110.toNat (IntKind.wrap .i64 ((v_4.getD (v_1.getD 0 default).toNat default) + 1)))

def m34_configs_distances_B0 (l : List (List (Int × Bool))) (sf58 : (List Int) → (List Int) → Option (List Int)) (v_1 : List Int) (v_2 : List Int) : Option (List Int) :=
 bif (decide (0 < (v_1.length : Int))) then
  ck ((0 : Int) ≤ 0 ∧ 0 < (v_1.length : Int)) <|
  ck ((0 : Int) ≤ (1 : Int) ∧ (1 : Int) ≤ (v_1.length : Int)) <|
  (m38_configs_next l (v_1.getD 0 default)).bind fun next_1 =>
  jn (fun (v_3 : List Int) (v_4 : List Int) =>
   sf58 v_3 v_4)
  (fun k101 =>
   rng2 (m34_configs_distances_B1 v_1) k101 next_1 (v_1.drop 1) v_2)
 else
  some v_2

def m34_configs_distances (l : List (List (Int × Bool))) (to : Int) : Option (List Int) :=
 (m42_slices_Repeatint_int_ [(-1)] (l.length : Int)).bind fun repeat_1 =>
 ck ((0 : Int) ≤ to ∧ to < (repeat_1.length : Int)) <|
 loop2 (m34_configs_distances_B0 l) (1000000) [to] (repeat_1.set to.toNat 0)

theorem g34_configs_distances {w : World} {O : List Nat} {l : List (List (Int × Bool))} {to : Int} {a_l : Option Addr} {c_l : Nat} (hO : ∀ k ∈ O, k < w.heap.size) (f_l : SlR (rMp .u64 mvB) w O a_l c_l l) (r_to : InK .i64 to) {x : (List Int)} (hm : m34_configs_distances l to = some x) :
  OkG Try.prog 34 [(Value.slice a_l l.length c_l), (Value.int .i64 to)] w O (rInt .i64) 3 x := by
 unfold m34_configs_distances at hm
 refine Fn_of_Wp (n := 48) (xs := [.tmp 4]) Try.func34 rfl Try.ntmps34 Try.results34 rfl ?_
 have hs := St.start hO
 refine Wp_seq ?_
 refine Wp_region ?_
 refine Rg_op rfl (op_assign (v := (Value.slice none 0 0)) rfl ?_)
 refine Rg_nil ?_
 refine Wp_seq ?_
 refine Wp_region ?_
 refine Rg_op rfl (op_buildSlice (cs := [(Value.int .i64 (-1))]) (parts := [(0, .const (.int .i64 (-1)))]) ty39 ty3 hs (by decide) rfl ?_)
 intro b1 w2 hx5 p3 hs4
 replace f_l := f_l.step p3; clear p3
 refine Rg_op rfl (op_move (v := (Value.slice a_l l.length c_l)) rfl ?_)
 refine Rg_op rfl (op_len Try.underlying56 rfl ?_)
 obtain ⟨hs8, p9, f7⟩ := St.publish (i := 0) (o := 0) (c := 1) (xs := [(-1)]) hs4 rfl (show Els (rInt .i64) _ _ [(Value.int .i64 (-1))] [(-1)] from ⟨_, _, rfl, (mk_int (show InK .i64 (-1) from by decide)), Els.nil⟩) (le_lit rfl) (le_lit rfl) (le_lit rfl)
 replace f_l := f_l.step p9; clear p9 hs4
 replace hm := bd hm; obtain ⟨repeat_1, hv10, hm⟩ := hm
 refine Rg_op rfl (op_call Try.call42 (g42_slices_Repeatint_int_ (x_ := [(-1)]) (count := (l.length : Int)) hs8.ltw f7 (inK_len f_l) hv10) rfl ?_)
 rintro _ w12 ⟨hx13, a16, c17, k18, o19, rfl, hk20, f21⟩
 obtain ⟨hs15, p22⟩ := hs8.callG (o := o19) hx13 hk20
 rw [← ks_cons (o := o19)] at f21
 replace f_l := f_l.step p22; replace f7 := f7.step p22; clear p22 hs8
 refine Rg_op rfl (op_alloc ty39 hs15 ?_)
 intro b24 w25 _ p26 hs27
 replace f_l := f_l.step p26; replace f7 := f7.step p26; replace f21 := f21.step p26; clear p26 hs15
 refine Rg_op_ (op_store (cs := [(Value.slice none 0 0)]) (vs := [(Value.slice a16 repeat_1.length c17)]) (cs' := [(Value.slice a16 repeat_1.length c17)]) (bs' := [(some b24, Obj.cells [(Value.slice a16 repeat_1.length c17)].toArray 39), (k18, o19)]) (i := 0) ty39 hs27 rfl rfl rfl rfl rfl (le_lit rfl) rfl rfl rfl ?_)
 intro w29 p30 hs31
 replace f_l := f_l.step p30; replace f7 := f7.step p30; replace f21 := f21.step p30; clear p30 hs27
 refine Rg_nil ?_
 refine Wp_seq ?_
 clear f7
 refine Wp_region ?_
 refine Rg_op rfl (op_load (cs := [(Value.slice a16 repeat_1.length c17)]) (i := 0) ty39 hs31 rfl rfl rfl ?_)
 refine Rg_op rfl (op_move (v := (Value.int .i64 to)) rfl ?_)
 replace hm := ck_some hm; obtain ⟨hc32, hm⟩ := hm
 refine Rg_op rfl (op_indexAddrG ty39 ty3 rfl rfl f21 hc32 ?_)
 rintro b33 rfl rfl
 refine Rg_op_ (op_storeG (vs := [(Value.int .i64 0)]) (i := 1) ty3 rfl hs31 rfl rfl rfl rfl f21 hc32 (mk_int (show InK .i64 0 from by decide)) ?_)
 intro w34 o37 p35 hs36 f38
 replace f_l := f_l.step p35; clear p35 hs31
 refine Rg_nil ?_
 refine Wp_seq ?_
 refine Wp_region ?_
 refine Rg_op rfl (op_move (v := (Value.int .i64 to)) rfl ?_)
 refine Rg_op rfl (op_buildSlice (cs := [(Value.int .i64 to)]) (parts := [(0, .tmp 16)]) ty39 ty3 hs36 (by decide) rfl ?_)
 intro b39 w40 hx43 p41 hs42
 replace f_l := f_l.step p41; replace f38 := f38.step p41; clear p41 hs36
 refine Rg_op rfl (op_alloc ty39 hs42 ?_)
 intro b45 w46 _ p47 hs48
 replace f_l := f_l.step p47; replace f38 := f38.step p47; clear p47 hs42
 have f50 := Gs.of_cells (p := (rInt .i64)) (e := 3) (bl := b39) (c := 1) (w := w46) (O := ks [(some b45, Obj.cells [(Value.slice none 0 0)].toArray 39), (some b39, Obj.cells [(Value.int .i64 to)].toArray 3), (some b24, Obj.cells [(Value.slice (some ⟨b33, 0, none⟩) repeat_1.length c17)].toArray 39), (some b33, o37)] O) (show Els (rInt .i64) _ _ [(Value.int .i64 to)] [to] from ⟨_, _, rfl, (mk_int r_to), Els.nil⟩) rfl (le_lit rfl)
 refine Rg_op_ (op_store (cs := [(Value.slice none 0 0)]) (vs := [(Value.slice (some ⟨b39, 0, none⟩) [to].length 1)]) (cs' := [(Value.slice (some ⟨b39, 0, none⟩) [to].length 1)]) (bs' := [(some b45, Obj.cells [(Value.slice (some ⟨b39, 0, none⟩) [to].length 1)].toArray 39), (some b39, (Obj.cells [(Value.int .i64 to)].toArray 3)), (some b24, Obj.cells [(Value.slice (some ⟨b33, 0, none⟩) repeat_1.length c17)].toArray 39), (some b33, o37)]) (i := 0) ty39 hs48 rfl rfl rfl rfl rfl (le_lit rfl) rfl rfl rfl ?_)
 intro w51 p52 hs53
 replace f_l := f_l.step p52; replace f38 := f38.step p52; replace f50 := f50.step p52; clear p52 hs48
 refine Rg_nil ?_
 refine Wp_seq ?_
 refine Wp_block ?_
 refine Wp_reset [] [(0, (Value.slice a_l l.length c_l)), (4, (Value.slice none 0 0)), (5, (Value.pointer (some ⟨b24, 0, none⟩))), (6, (Value.pointer (some ⟨b45, 0, none⟩)))] rfl ⟨rfl, rfl, rfl, rfl, trivial⟩ fun ξ57 => ?_
 have q62 : repeat_1.length = (repeat_1.set to.toNat 0).length := (show repeat_1.length = (repeat_1.set to.toNat 0).length from by first | (simp; done) | (simp; omega))
 have hs63 : St ⟨w, [], []⟩ O w51 [(some b45, Obj.cells [(Value.slice (some ⟨b39, 0, none⟩) [to].length 1)].toArray 39), (some b39, (Obj.cells [(Value.int .i64 to)].toArray 3)), (some b24, Obj.cells [(Value.slice (some ⟨b33, 0, none⟩) (repeat_1.set to.toNat 0).length c17)].toArray 39), (some b33, o37)] := by rw [← q62]; exact hs53
 have p64 : Step (ks [(some b45, Obj.cells [(Value.slice (some ⟨b39, 0, none⟩) [to].length 1)].toArray 39), (some b39, (Obj.cells [(Value.int .i64 to)].toArray 3)), (some b24, Obj.cells [(Value.slice (some ⟨b33, 0, none⟩) repeat_1.length c17)].toArray 39), (some b33, o37)] O) w51 (ks [(some b45, Obj.cells [(Value.slice (some ⟨b39, 0, none⟩) [to].length 1)].toArray 39), (some b39, (Obj.cells [(Value.int .i64 to)].toArray 3)), (some b24, Obj.cells [(Value.slice (some ⟨b33, 0, none⟩) (repeat_1.set to.toNat 0).length c17)].toArray 39), (some b33, o37)] O) w51 := Step.refl _ _
 replace f_l := f_l.step p64; replace f38 := f38.step p64; replace f50 := f50.step p64; clear p64 hs53
 have f65 := Gs.toO f50
 refine Wp_loopM [7, 18, 19, 20, 21, 22, 23, 24, 25, 26, 27, 28] (fun m fr w' => ∃ (v_1 : List Int) (v_2 : List Int) (b_g54 : Nat) (off_g54 : Nat) (c_g54 : Nat) (o_g54 : Obj) (a_g55 : Option Addr) (c_g55 : Nat) (k_g55 : Option Nat) (o_g55 : Obj) (Ds56 : List Nat) (Ebs : Ents), Ebs = [(some b45, Obj.cells [(Value.slice (some ⟨b_g54, off_g54, none⟩) v_1.length c_g54)].toArray 39), (some b_g54, o_g54), (some b24, Obj.cells [(Value.slice a_g55 v_2.length c_g55)].toArray 39), (k_g55, o_g55)] ∧ fr (Ds56 ++ []) [] ∧ Step (ks [(some b45, Obj.cells [(Value.slice (some ⟨b39, 0, none⟩) [to].length 1)].toArray 39), (some b39, (Obj.cells [(Value.int .i64 to)].toArray 3)), (some b24, Obj.cells [(Value.slice (some ⟨b33, 0, none⟩) (repeat_1.set to.toNat 0).length c17)].toArray 39), (some b33, o37)] O) w51 (ks Ebs (Ds56 ++ O)) w' ∧ St ⟨w, [], (Ds56 ++ [])⟩ (Ds56 ++ O) w' Ebs ∧ GsO (rInt .i64) 3 w' (ks Ebs (Ds56 ++ O)) off_g54 c_g54 v_1 o_g54 ∧ Gs (rInt .i64) 3 w' (ks Ebs (Ds56 ++ O)) a_g55 c_g55 v_2 k_g55 o_g55 ∧ loop2 (m34_configs_distances_B0 l) m v_1 v_2 = some x) (1000000) ⟨[to], (repeat_1.set to.toNat 0), b39, 0, 1, (Obj.cells [(Value.int .i64 to)].toArray 3), (some ⟨b33, 0, none⟩), c17, (some b33), o37, [], _, rfl, ⟨Out.refl _ _, rfl, trivial⟩, Step.refl _ _, hs63, f65, f38, hm⟩ ?_ ?_
 · rintro _ _ ⟨_, _, _, _, _, _, _, _, _, _, _, _, _, _, _, _, _, _, hm⟩; exact loop2_z hm
 ·
  rintro m61 K60 hK60 ρ70 w66 ⟨v_1, v_2, b_g54, off_g54, c_g54, o_g54, a_g55, c_g55, k_g55, o_g55, Ds56, Ebs, hEbs, hfr69, hst68, hs67, f_g54, f_g55, hm⟩
  obtain ⟨sf58, hsf59, hm⟩ := loop2_s hm; unfold m34_configs_distances_B0 at hm
  subst hEbs; rw [hfr69.eq]; clear hfr69
  replace f_l := f_l.step hst68; replace f38 := f38.step hst68; replace f65 := f65.step hst68
  have ch71 := hst68
  refine Wp_seq ?_
  refine Wp_seq ?_
  clear f38 f65
  refine Wp_region ?_
  refine Rg_op rfl (op_load (cs := [(Value.slice (some ⟨b_g54, off_g54, none⟩) v_1.length c_g54)]) (i := 0) ty39 hs67 rfl rfl rfl ?_)
  refine Rg_op rfl (op_len Try.underlying39 rfl ?_)
  refine Rg_op rfl (op_gtr rfl rfl ?_)
  refine Rg_nil ?_
  refine Wp_cond rfl (fun hc72 => ?_) (fun hc72 => ?_)
  ·
   replace hm := bif_t hm hc72
   refine Wp_skip ?_
   refine Wp_block ?_
   refine Wp_scope ?_
   refine Wp_seq ?_
   refine Wp_region ?_
   refine Rg_op rfl (op_load (cs := [(Value.slice (some ⟨b_g54, off_g54, none⟩) v_1.length c_g54)]) (i := 0) ty39 hs67 rfl rfl rfl ?_)
   replace hm := ck_some hm; obtain ⟨hc73, hm⟩ := hm
   refine Rg_op rfl (op_indexAddrO ty39 ty3 rfl rfl hc73.1 hc73.2 ?_)
   refine Rg_op rfl (op_loadGO (m := 0) (i := 1) ty3 rfl hs67 rfl rfl f_g54 (by omega) ?_)
   intro v74 h75
   obtain ⟨rfl, r_y76⟩ := un_int h75
   refine Rg_op rfl (op_alloc ty3 hs67 ?_)
   intro b77 w78 _ p79 hs80
   replace f_l := f_l.step p79; replace f_g54 := f_g54.step p79; replace f_g55 := f_g55.step p79; replace ch71 := ch71.trans p79; clear p79 hs67
   refine Rg_op_ (op_store (cs := [(Value.int .i64 0)]) (vs := [(Value.int .i64 (v_1.getD 0 default))]) (cs' := [(Value.int .i64 (v_1.getD 0 default))]) (bs' := [(some b77, Obj.cells [(Value.int .i64 (v_1.getD 0 default))].toArray 3), (some b45, Obj.cells [(Value.slice (some ⟨b_g54, off_g54, none⟩) v_1.length c_g54)].toArray 39), (some b_g54, o_g54), (some b24, Obj.cells [(Value.slice a_g55 v_2.length c_g55)].toArray 39), (k_g55, o_g55)]) (i := 0) ty3 hs80 rfl rfl rfl rfl rfl (le_lit rfl) rfl rfl rfl ?_)
   intro w82 p83 hs84
   replace f_l := f_l.step p83; replace f_g54 := f_g54.step p83; replace f_g55 := f_g55.step p83; replace ch71 := ch71.trans p83; clear p83 hs80
   refine Rg_nil ?_
   refine Wp_seq ?_
   refine Wp_region ?_
   refine Rg_op rfl (op_load (cs := [(Value.slice (some ⟨b_g54, off_g54, none⟩) v_1.length c_g54)]) (i := 1) ty39 hs84 rfl rfl rfl ?_)
   replace hm := ck_some hm; obtain ⟨hc85, hm⟩ := hm
   refine Rg_op rfl (op_sliceGO (q := (rInt .i64)) (l := 1) (xs := v_1) ty39 ty3 rfl rfl (bndI rfl (by omega)) (by omega) f_g54 ?_)
   intro off86 f87
   refine Rg_op_ (op_store (cs := [(Value.slice (some ⟨b_g54, off_g54, none⟩) v_1.length c_g54)]) (vs := [(Value.slice (some ⟨b_g54, off86, none⟩) (v_1.drop 1).length (c_g54 - 1))]) (cs' := [(Value.slice (some ⟨b_g54, off86, none⟩) (v_1.drop 1).length (c_g54 - 1))]) (bs' := [(some b77, Obj.cells [(Value.int .i64 (v_1.getD 0 default))].toArray 3), (some b45, Obj.cells [(Value.slice (some ⟨b_g54, off86, none⟩) (v_1.drop 1).length (c_g54 - 1))].toArray 39), (some b_g54, o_g54), (some b24, Obj.cells [(Value.slice a_g55 v_2.length c_g55)].toArray 39), (k_g55, o_g55)]) (i := 1) ty39 hs84 rfl rfl rfl rfl rfl (le_lit rfl) rfl rfl rfl ?_)
   intro w88 p89 hs90
   replace f_l := f_l.step p89; replace f_g54 := f_g54.step p89; replace f_g55 := f_g55.step p89; replace f87 := f87.step p89; replace ch71 := ch71.trans p89; clear p89 hs84
   refine Rg_nil ?_
   refine Wp_seq ?_
   refine Wp_label ?_
   refine Wp_seq ?_
   clear f_g54
   refine Wp_region ?_
   refine Rg_op rfl (op_move (v := (Value.slice a_l l.length c_l)) rfl ?_)
   refine Rg_op rfl (op_load (cs := [(Value.int .i64 (v_1.getD 0 default))]) (i := 0) ty3 hs90 rfl rfl rfl ?_)
   replace hm := bd hm; obtain ⟨next_1, hv91, hm⟩ := hm
   refine Rg_op rfl (op_call Try.call38 (c38_configs_next (l := l) (from_ := (v_1.getD 0 default)) hs90.ltw f_l r_y76 hv91) rfl ?_)
   rintro v92 w93 ⟨hx94, h95⟩
   have hs96 := hs90.call hx94
   have p97 := Step.ext (O := ks [(some b77, Obj.cells [(Value.int .i64 (v_1.getD 0 default))].toArray 3), (some b45, Obj.cells [(Value.slice (some ⟨b_g54, off86, none⟩) (v_1.drop 1).length (c_g54 - 1))].toArray 39), (some b_g54, o_g54), (some b24, Obj.cells [(Value.slice a_g55 v_2.length c_g55)].toArray 39), (k_g55, o_g55)] (Ds56 ++ O)) hx94
   clear hx94
   replace f_l := f_l.step p97; replace f_g55 := f_g55.step p97; replace f87 := f87.step p97; replace ch71 := ch71.trans p97; clear p97 hs90
   have F_y98 : ItR Try.prog (enc1 (vI .i64)) _ _ v92 next_1 := h95
   refine Rg_nil ?_
   refine Wp_block ?_
   have hit107 := F_y98; obtain ⟨fk103, cp104, hvq105, hcl106, hit107⟩ := hit107
   replace hm := jn_elim hm; obtain ⟨k101, hk102, hm⟩ := hm
   refine Wp_rangeFunc (σ := (List Int) × (List Int) × Nat × Nat × Nat × Obj × (Option Addr) × Nat × (Option Nat) × Obj) (ps := [29]) hs96 (rfl.trans hvq105) hcl106 hit107 rfl enc1_len enc1_step (fun s => match s with | (v_3, v_4, b_g99, off_g99, c_g99, o_g99, a_g100, c_g100, k_g100, o_g100) => [(some b77, Obj.cells [(Value.int .i64 (v_1.getD 0 default))].toArray 3), (some b45, Obj.cells [(Value.slice (some ⟨b_g99, off_g99, none⟩) v_3.length c_g99)].toArray 39), (some b_g99, o_g99), (some b24, Obj.cells [(Value.slice a_g100 v_4.length c_g100)].toArray 39), (k_g100, o_g100)]) (fun s w O => match s with | (v_3, v_4, b_g99, off_g99, c_g99, o_g99, a_g100, c_g100, k_g100, o_g100) => GsO (rInt .i64) 3 w O off_g99 c_g99 v_3 o_g99 ∧ Gs (rInt .i64) 3 w O a_g100 c_g100 v_4 k_g100 o_g100) (fun s w O w' O' p h => by obtain ⟨v_3, v_4, b_g99, off_g99, c_g99, o_g99, a_g100, c_g100, k_g100, o_g100⟩ := s; have h : GsO (rInt .i64) 3 w O off_g99 c_g99 v_3 o_g99 ∧ Gs (rInt .i64) 3 w O a_g100 c_g100 v_4 k_g100 o_g100 := h; obtain ⟨f_g99, f_g100⟩ := h; exact ⟨f_g99.step p, f_g100.step p⟩) (fun s l => match s with | (v_3, v_4, b_g99, off_g99, c_g99, o_g99, a_g100, c_g100, k_g100, o_g100) => rng2 (m34_configs_distances_B1 v_1) k101 l v_3 v_4 = some x) [] (fun _ _ => False) ((v_1.drop 1), v_2, b_g54, off86, (c_g54 - 1), o_g54, a_g55, c_g55, k_g55, o_g55) rfl ⟨f87, f_g55⟩ hm ?_ ?_ ?_
   ·
    rintro l108 E109 ⟨v_3, v_4, b_g99, off_g99, c_g99, o_g99, a_g100, c_g100, k_g100, o_g100⟩ xi110 rest111 w112 vs113 z114 hz115 hs116 hst117 ⟨f_g99, f_g100⟩ hm hx118
    replace hs116 : St z114 (E109 ++ (Ds56 ++ O)) w112 [(some b77, Obj.cells [(Value.int .i64 (v_1.getD 0 default))].toArray 3), (some b45, Obj.cells [(Value.slice (some ⟨b_g99, off_g99, none⟩) v_3.length c_g99)].toArray 39), (some b_g99, o_g99), (some b24, Obj.cells [(Value.slice a_g100 v_4.length c_g100)].toArray 39), (k_g100, o_g100)] := hs116
    have ch121 : Step (ks [(some b77, Obj.cells [(Value.int .i64 (v_1.getD 0 default))].toArray 3), (some b45, Obj.cells [(Value.slice (some ⟨b_g54, off86, none⟩) (v_1.drop 1).length (c_g54 - 1))].toArray 39), (some b_g54, o_g54), (some b24, Obj.cells [(Value.slice a_g55 v_2.length c_g55)].toArray 39), (k_g55, o_g55)] (Ds56 ++ O)) w93 (ks [(some b77, Obj.cells [(Value.int .i64 (v_1.getD 0 default))].toArray 3), (some b45, Obj.cells [(Value.slice (some ⟨b_g99, off_g99, none⟩) v_3.length c_g99)].toArray 39), (some b_g99, o_g99), (some b24, Obj.cells [(Value.slice a_g100 v_4.length c_g100)].toArray 39), (k_g100, o_g100)] (E109 ++ (Ds56 ++ O))) w112 := hst117; clear hst117
    replace f_g99 : GsO (rInt .i64) 3 w112 (ks [(some b77, Obj.cells [(Value.int .i64 (v_1.getD 0 default))].toArray 3), (some b45, Obj.cells [(Value.slice (some ⟨b_g99, off_g99, none⟩) v_3.length c_g99)].toArray 39), (some b_g99, o_g99), (some b24, Obj.cells [(Value.slice a_g100 v_4.length c_g100)].toArray 39), (k_g100, o_g100)] (E109 ++ (Ds56 ++ O))) off_g99 c_g99 v_3 o_g99 := f_g99
    replace f_g100 : Gs (rInt .i64) 3 w112 (ks [(some b77, Obj.cells [(Value.int .i64 (v_1.getD 0 default))].toArray 3), (some b45, Obj.cells [(Value.slice (some ⟨b_g99, off_g99, none⟩) v_3.length c_g99)].toArray 39), (some b_g99, o_g99), (some b24, Obj.cells [(Value.slice a_g100 v_4.length c_g100)].toArray 39), (k_g100, o_g100)] (E109 ++ (Ds56 ++ O))) a_g100 c_g100 v_4 k_g100 o_g100 := f_g100
    have hm122 := rng2_s (show rng2 _ _ (xi110 :: rest111) v_3 v_4 = some _ from hm); clear hm; obtain ⟨sf119, hsf120, hm⟩ := hm122
    unfold m34_configs_distances_B1 at hm
    replace f_l := f_l.step ch121; replace f_g55 := f_g55.step ch121; replace f87 := f87.step ch121; replace F_y98 := F_y98.step ch121
    replace hx118 : (enc1 (vI .i64)) xi110 w112 (ks [(some b77, Obj.cells [(Value.int .i64 (v_1.getD 0 default))].toArray 3), (some b45, Obj.cells [(Value.slice (some ⟨b_g99, off_g99, none⟩) v_3.length c_g99)].toArray 39), (some b_g99, o_g99), (some b24, Obj.cells [(Value.slice a_g100 v_4.length c_g100)].toArray 39), (k_g100, o_g100)] (E109 ++ (Ds56 ++ O))) vs113 := hx118
    obtain ⟨v123, rfl, h124⟩ := hx118
    obtain ⟨rfl, r_y125⟩ := h124
    refine Wp_region ?_
    refine Rg_op rfl (op_assign (v := (Value.int .i64 xi110)) rfl ?_)
    refine Rg_nil ?_
    refine Exists.intro _ (And.intro hs116 ?_)
    intro w126 z127 RQ128 hz129 hs130 p131 hN132 hX133
    replace f_l := f_l.step p131; replace f_g55 := f_g55.step p131; replace f87 := f87.step p131; replace F_y98 := F_y98.step p131; replace f_g99 := f_g99.step p131; replace f_g100 := f_g100.step p131; replace ch121 := ch121.trans p131; clear p131 hs116
    refine Wp_block ?_
    refine Wp_seq ?_
    refine Wp_seq ?_
    clear f_g55 f87
    refine Wp_region ?_
    refine Rg_op rfl (op_load (cs := [(Value.slice a_g100 v_4.length c_g100)]) (i := 3) ty39 hs130 rfl rfl rfl ?_)
    refine Rg_op rfl (op_move (v := (Value.int .i64 xi110)) rfl ?_)
    replace hm := ck_some hm; obtain ⟨hc134, hm⟩ := hm
    refine Rg_op rfl (op_indexAddrG ty39 ty3 rfl rfl f_g100 hc134 ?_)
    rintro b135 rfl rfl
    refine Rg_op rfl (op_loadG (i := 4) ty3 rfl hs130 rfl rfl f_g100 hc134 ?_)
    intro v136 h137
    obtain ⟨rfl, r_y138⟩ := un_int h137
    refine Rg_op rfl (op_geq rfl rfl ?_)
    refine Rg_nil ?_
    refine Wp_cond rfl (fun hc139 => ?_) (fun hc139 => ?_)
    ·
     replace hm := bif_t hm hc139
     refine Wp_exit ?_
     exact hN132 (v_3, v_4, b_g99, off_g99, c_g99, o_g99, (some ⟨b135, 0, none⟩), c_g100, (some b135), o_g100) _ _ hs130 ch121 ⟨f_g99, f_g100⟩ (jnE2 hsf120 hm)
    ·
     replace hm := bif_f hm hc139
     refine Wp_skip ?_
     refine Wp_seq ?_
     refine Wp_drawR (g0 := []) (m := 7) (fl := []) (TS_inv hs130) (.inr rfl) rfl (by decide +kernel) ?_  -- 10
     refine Dw_eq (Value.slice (some ⟨b135, 0, none⟩) v_4.length c_g100) (fun ρ140 w141 g hle hi ht => ?_) ?_
     ·
      obtain ⟨-, hst, -⟩ := hle
      have hsn := (Step.nx hi).1
      refine StepOp_plain (op_load (cs := [(Value.slice (some ⟨b135, 0, none⟩) v_4.length c_g100)]) (i := 3) ty39 hsn (ht 5 rfl) rfl rfl ?_)
      exact Goes.same hi rfl
     refine Dw_eq (Value.int .i64 xi110) (fun ρ143 w144 g hle hi ht => ?_) ?_
     ·
      obtain ⟨-, hst, -⟩ := hle
      refine StepOp_plain (op_move (v := (Value.int .i64 xi110)) (ht 8 rfl) ?_)
      exact Goes.same hi rfl
     refine Dw_eq (Value.slice (some ⟨b135, 0, none⟩) v_4.length c_g100) (fun ρ146 w147 g hle hi ht => ?_) ?_
     ·
      obtain ⟨-, hst, -⟩ := hle
      have hsn := (Step.nx hi).1
      refine StepOp_plain (op_load (cs := [(Value.slice (some ⟨b135, 0, none⟩) v_4.length c_g100)]) (i := 3) ty39 hsn (ht 5 rfl) rfl rfl ?_)
      exact Goes.same hi rfl
     refine Dw_eq (Value.int .i64 (v_1.getD 0 default)) (fun ρ149 w150 g hle hi ht => ?_) ?_
     ·
      obtain ⟨-, hst, -⟩ := hle
      have hsn := (Step.nx hi).1
      refine StepOp_plain (op_load (cs := [(Value.int .i64 (v_1.getD 0 default))]) (i := 0) ty3 hsn (ht 7 rfl) rfl rfl ?_)
      exact Goes.same hi rfl
     replace hm := ck_some hm; obtain ⟨hc155, hm⟩ := hm
     refine Dw_eq (Value.pointer (some ⟨b135, (v_1.getD 0 default).toNat * 1, none⟩)) (fun ρ152 w153 g hle hi ht => ?_) ?_
     ·
      obtain ⟨-, hst, -⟩ := hle
      replace f_g100 := f_g100.step hst
      refine StepOp_plain (op_indexAddrG ty39 ty3 (ht 37 rfl) (ht 38 rfl) f_g100 hc155 ?_)
      rintro _ ⟨⟩ -
      exact Goes.same hi rfl
     refine Dw_op (VD (E109 ++ (Ds56 ++ O)) [(some b77, Obj.cells [(Value.int .i64 (v_1.getD 0 default))].toArray 3), (some b45, Obj.cells [(Value.slice (some ⟨b_g99, off_g99, none⟩) v_3.length c_g99)].toArray 39), (some b_g99, o_g99), (some b24, Obj.cells [(Value.slice (some ⟨b135, 0, none⟩) v_4.length c_g100)].toArray 39), (some b135, o_g100)] (vI .i64) (v_4.getD (v_1.getD 0 default).toNat default)) (VD.stab _ _) (fun ρ157 w158 g hle hi ht => ?_) ?_
     ·
      obtain ⟨-, hst, -⟩ := hle
      replace f_g100 := f_g100.step hst
      have hsn := (Step.nx hi).1
      refine StepOp_plain (op_loadG (i := 4) ty3 rfl hsn rfl (ht 39 rfl) f_g100 hc155 ?_)
      intro v160 h161
      obtain ⟨rfl, r_y162⟩ := un_int h161
      exact Goes.same hi (show Vr.vd (vI .i64) _ _ _ _ from ⟨rfl, r_y162⟩)
     refine Dw_eq (Value.int .i64 (IntKind.wrap .i64 ((v_4.getD (v_1.getD 0 default).toNat default) + 1))) (fun ρ163 w164 g hle hi ht => ?_) ?_
     ·
      obtain ⟨-, hst, -⟩ := hle
      have h166 : Vr.vd (vI .i64) _ _ _ _ := ht 40 rfl
      obtain ⟨q167, r_y168⟩ := h166
      refine StepOp_plain (op_addw q167 rfl ?_)
      exact Goes.same hi rfl
     refine Dw_nil fun w173 g174 hl175 hi176 => ?_
     obtain ⟨-, hst177, -⟩ := hl175
     obtain ⟨hs179, p178⟩ := Step.nx hi176
     rintro _ rfl
     rintro v180 h181
     replace h181 : Vr.vd (vI .i64) _ _ _ _ := h181
     obtain ⟨rfl, r_y182⟩ := h181
     rintro _ rfl
     rintro _ rfl
     rintro _ rfl
     rintro _ rfl
     rintro _ rfl
     have p183 : Step (ks [(some b77, Obj.cells [(Value.int .i64 (v_1.getD 0 default))].toArray 3), (some b45, Obj.cells [(Value.slice (some ⟨b_g99, off_g99, none⟩) v_3.length c_g99)].toArray 39), (some b_g99, o_g99), (some b24, Obj.cells [(Value.slice (some ⟨b135, 0, none⟩) v_4.length c_g100)].toArray 39), (some b135, o_g100)] (E109 ++ (Ds56 ++ O))) w126 (ks [(some b77, Obj.cells [(Value.int .i64 (v_1.getD 0 default))].toArray 3), (some b45, Obj.cells [(Value.slice (some ⟨b_g99, off_g99, none⟩) v_3.length c_g99)].toArray 39), (some b_g99, o_g99), (some b24, Obj.cells [(Value.slice (some ⟨b135, 0, none⟩) v_4.length c_g100)].toArray 39), (some b135, o_g100)] (E109 ++ (Ds56 ++ O))) w173 := hst177.trans p178
     replace f_l := f_l.step p183; replace F_y98 := F_y98.step p183; replace f_g99 := f_g99.step p183; replace f_g100 := f_g100.step p183; replace ch121 := ch121.trans p183; clear p183 hs130
     replace hm := ck_some hm; obtain ⟨hc184, hm⟩ := hm
     refine Rg_op rfl (op_indexAddrG ty39 ty3 rfl rfl f_g100 hc184 ?_)
     rintro _ ⟨⟩ -
     refine Rg_op_ (op_storeG (vs := [(Value.int .i64 (IntKind.wrap .i64 ((v_4.getD (v_1.getD 0 default).toNat default) + 1)))]) (i := 4) ty3 rfl hs179 rfl rfl rfl rfl f_g100 hc184 (mk_int (inK_wrap .i64 _)) ?_)
     intro w186 o189 p187 hs188 f190
     replace f_l := f_l.step p187; replace F_y98 := F_y98.step p187; replace f_g99 := f_g99.step p187; replace ch121 := ch121.trans p187; clear p187 hs179
     refine Rg_nil ?_
     refine Wp_reset [] [(0, (Value.slice a_l l.length c_l)), (4, (Value.slice none 0 0)), (5, (Value.pointer (some ⟨b24, 0, none⟩))), (6, (Value.pointer (some ⟨b45, 0, none⟩))), (7, (Value.pointer (some ⟨b77, 0, none⟩))), (8, (Value.int .i64 xi110)), (28, v92)] rfl ⟨rfl, rfl, rfl, rfl, rfl, rfl, rfl, trivial⟩ fun ξ191 => ?_
     refine Wp_region ?_
     refine Rg_op rfl (op_load (cs := [(Value.slice (some ⟨b_g99, off_g99, none⟩) v_3.length c_g99)]) (i := 1) ty39 hs188 rfl rfl rfl ?_)
     refine Rg_op rfl (op_move (v := (Value.int .i64 xi110)) rfl ?_)
     refine Rg_op rfl (op_buildSlice (cs := [(Value.int .i64 xi110)]) (parts := [(0, .tmp 44)]) ty39 ty3 hs188 (by decide) rfl ?_)
     intro b192 w193 hx196 p194 hs195
     replace f_l := f_l.step p194; replace F_y98 := F_y98.step p194; replace f_g99 := f_g99.step p194; replace f190 := f190.step p194; replace ch121 := ch121.trans p194; clear p194 hs188
     replace hm := ck_some hm; obtain ⟨hc198, hm⟩ := hm
     refine Rg_op rfl (op_appendGO (q := (rInt .i64)) (i := 3) (xs := v_3) (ys := [xi110]) (news := [(Value.int .i64 xi110)]) ty39 ty3 rfl (by decide) hs195 rfl rfl f_g99 rfl (Src.owned' (len := 1) (hs195.get (i := 0) rfl) rfl) (show Els (rInt .i64) _ _ [(Value.int .i64 xi110)] [xi110] from ⟨_, _, rfl, (mk_int r_y125), Els.nil⟩) (le_lit rfl) hc198 (by have := hc198; simp only [maxLen]; omega) ?_)
     intro b202 off203 c204 o205 w199 p200 hs201 f206
     replace f_l := f_l.step p200; replace F_y98 := F_y98.step p200; replace f190 := f190.step p200; replace ch121 := ch121.trans p200; clear p200 hs195
     have hs207 := hs201.drop 0
     replace f_l := f_l.step (hs201.dropS 0)
     replace F_y98 := F_y98.step (hs201.dropS 0)
     replace f190 := f190.step (hs201.dropS 0)
     replace f206 := f206.step (hs201.dropS 0)
     replace ch121 := ch121.trans (hs201.dropS 0); clear hs201
     refine Rg_op_ (op_store (cs := [(Value.slice (some ⟨b_g99, off_g99, none⟩) v_3.length c_g99)]) (vs := [(Value.slice (some ⟨b202, off203, none⟩) (v_3 ++ [xi110]).length c204)]) (cs' := [(Value.slice (some ⟨b202, off203, none⟩) (v_3 ++ [xi110]).length c204)]) (bs' := [(some b77, Obj.cells [(Value.int .i64 (v_1.getD 0 default))].toArray 3), (some b45, Obj.cells [(Value.slice (some ⟨b202, off203, none⟩) (v_3 ++ [xi110]).length c204)].toArray 39), (some b202, o205), (some b24, Obj.cells [(Value.slice (some ⟨b135, 0, none⟩) v_4.length c_g100)].toArray 39), (some b135, o189)]) (i := 1) ty39 hs207 rfl rfl rfl rfl rfl (le_lit rfl) rfl rfl rfl ?_)
     intro w208 p209 hs210
     replace f_l := f_l.step p209; replace F_y98 := F_y98.step p209; replace f190 := f190.step p209; replace f206 := f206.step p209; replace ch121 := ch121.trans p209; clear p209 hs207
     refine Rg_nil ?_
     have q211 : v_4.length = (v_4.set xi110.toNat (IntKind.wrap .i64 ((v_4.getD (v_1.getD 0 default).toNat default) + 1))).length := (show v_4.length = (v_4.set xi110.toNat (IntKind.wrap .i64 ((v_4.getD (v_1.getD 0 default).toNat default) + 1))).length from by first | (simp; done) | (simp; omega))
     have hs212 : St z127 (E109 ++ (Ds56 ++ O)) w208 [(some b77, Obj.cells [(Value.int .i64 (v_1.getD 0 default))].toArray 3), (some b45, Obj.cells [(Value.slice (some ⟨b202, off203, none⟩) (v_3 ++ [xi110]).length c204)].toArray 39), (some b202, o205), (some b24, Obj.cells [(Value.slice (some ⟨b135, 0, none⟩) (v_4.set xi110.toNat (IntKind.wrap .i64 ((v_4.getD (v_1.getD 0 default).toNat default) + 1))).length c_g100)].toArray 39), (some b135, o189)] := by rw [← q211]; exact hs210
     have p213 : Step (ks [(some b77, Obj.cells [(Value.int .i64 (v_1.getD 0 default))].toArray 3), (some b45, Obj.cells [(Value.slice (some ⟨b202, off203, none⟩) (v_3 ++ [xi110]).length c204)].toArray 39), (some b202, o205), (some b24, Obj.cells [(Value.slice (some ⟨b135, 0, none⟩) v_4.length c_g100)].toArray 39), (some b135, o189)] (E109 ++ (Ds56 ++ O))) w208 (ks [(some b77, Obj.cells [(Value.int .i64 (v_1.getD 0 default))].toArray 3), (some b45, Obj.cells [(Value.slice (some ⟨b202, off203, none⟩) (v_3 ++ [xi110]).length c204)].toArray 39), (some b202, o205), (some b24, Obj.cells [(Value.slice (some ⟨b135, 0, none⟩) (v_4.set xi110.toNat (IntKind.wrap .i64 ((v_4.getD (v_1.getD 0 default).toNat default) + 1))).length c_g100)].toArray 39), (some b135, o189)] (E109 ++ (Ds56 ++ O))) w208 := Step.refl _ _
     replace f_l := f_l.step p213; replace F_y98 := F_y98.step p213; replace f190 := f190.step p213; replace f206 := f206.step p213; replace ch121 := ch121.trans p213; clear p213 hs210
     exact hN132 ((v_3 ++ [xi110]), (v_4.set xi110.toNat (IntKind.wrap .i64 ((v_4.getD (v_1.getD 0 default).toNat default) + 1))), b202, off203, c204, o205, (some ⟨b135, 0, none⟩), c_g100, (some b135), o189) _ _ hs212 ch121 ⟨f206, f190⟩ (jnE2 hsf120 hm)
   ·
    rintro D214 ⟨v_3, v_4, b_g99, off_g99, c_g99, o_g99, a_g100, c_g100, k_g100, o_g100⟩ w215 hs216 hst217 ⟨f_g99, f_g100⟩ hm
    replace hs216 : St ⟨w, [], (D214 :: (Ds56 ++ []))⟩ (D214 :: (Ds56 ++ O)) w215 [(some b77, Obj.cells [(Value.int .i64 (v_1.getD 0 default))].toArray 3), (some b45, Obj.cells [(Value.slice (some ⟨b_g99, off_g99, none⟩) v_3.length c_g99)].toArray 39), (some b_g99, o_g99), (some b24, Obj.cells [(Value.slice a_g100 v_4.length c_g100)].toArray 39), (k_g100, o_g100)] := hs216
    replace hst217 : Step (ks [(some b77, Obj.cells [(Value.int .i64 (v_1.getD 0 default))].toArray 3), (some b45, Obj.cells [(Value.slice (some ⟨b_g54, off86, none⟩) (v_1.drop 1).length (c_g54 - 1))].toArray 39), (some b_g54, o_g54), (some b24, Obj.cells [(Value.slice a_g55 v_2.length c_g55)].toArray 39), (k_g55, o_g55)] (Ds56 ++ O)) w93 (ks [(some b77, Obj.cells [(Value.int .i64 (v_1.getD 0 default))].toArray 3), (some b45, Obj.cells [(Value.slice (some ⟨b_g99, off_g99, none⟩) v_3.length c_g99)].toArray 39), (some b_g99, o_g99), (some b24, Obj.cells [(Value.slice a_g100 v_4.length c_g100)].toArray 39), (k_g100, o_g100)] (D214 :: (Ds56 ++ O))) w215 := hst217
    replace f_g99 : GsO (rInt .i64) 3 w215 (ks [(some b77, Obj.cells [(Value.int .i64 (v_1.getD 0 default))].toArray 3), (some b45, Obj.cells [(Value.slice (some ⟨b_g99, off_g99, none⟩) v_3.length c_g99)].toArray 39), (some b_g99, o_g99), (some b24, Obj.cells [(Value.slice a_g100 v_4.length c_g100)].toArray 39), (k_g100, o_g100)] (D214 :: (Ds56 ++ O))) off_g99 c_g99 v_3 o_g99 := f_g99
    replace f_g100 : Gs (rInt .i64) 3 w215 (ks [(some b77, Obj.cells [(Value.int .i64 (v_1.getD 0 default))].toArray 3), (some b45, Obj.cells [(Value.slice (some ⟨b_g99, off_g99, none⟩) v_3.length c_g99)].toArray 39), (some b_g99, o_g99), (some b24, Obj.cells [(Value.slice a_g100 v_4.length c_g100)].toArray 39), (k_g100, o_g100)] (D214 :: (Ds56 ++ O))) a_g100 c_g100 v_4 k_g100 o_g100 := f_g100
    replace hm := rng2_z (show rng2 _ _ [] v_3 v_4 = some _ from hm)
    replace hm := jnE2 hk102 (show k101 v_3 v_4 = some _ from hm)
    replace f_l := f_l.step hst217; replace f_g55 := f_g55.step hst217; replace f87 := f87.step hst217; replace F_y98 := F_y98.step hst217; replace ch71 := ch71.trans hst217; clear hst217 hs96
    have hs219 := hs216.drop 0
    replace f_l := f_l.step (hs216.dropS 0)
    replace f_g55 := f_g55.step (hs216.dropS 0)
    replace f87 := f87.step (hs216.dropS 0)
    replace F_y98 := F_y98.step (hs216.dropS 0)
    replace f_g99 := f_g99.step (hs216.dropS 0)
    replace f_g100 := f_g100.step (hs216.dropS 0)
    replace ch71 := ch71.trans (hs216.dropS 0); clear hs216
    exact hK60 _ _ ⟨v_3, v_4, b_g99, off_g99, c_g99, o_g99, a_g100, c_g100, k_g100, o_g100, (D214 :: Ds56), _, rfl, ⟨(by repeat (first | with_reducible exact Out.refl _ _ | refine Out.upd ?_ rfl | refine Out.updL ?_ rfl | refine Out.mix' ?_ rfl | exact Out.refl _ _)), rfl, trivial⟩, ch71, hs219, f_g99, f_g100, jnE2 hsf59 hm⟩
   · intro _ _ _ _ h; simp at h
  ·
   replace hm := bif_f hm hc72
   refine Wp_exit ?_
   refine Wp_seq ?_
   obtain ⟨hs220, p221⟩ := hs67.sub (bs' := [(some b24, Obj.cells [(Value.slice a_g55 v_2.length c_g55)].toArray 39), (k_g55, o_g55)]) (.cons _ (.cons _ (.cons_cons _ (.cons_cons _ List.Sublist.slnil))))
   clear f_l f_g54
   replace f_g55 := f_g55.step p221; replace ch71 := ch71.trans p221; clear p221 hs67
   refine Wp_region ?_
   refine Rg_op rfl (op_load (cs := [(Value.slice a_g55 v_2.length c_g55)]) (i := 0) ty39 hs220 rfl rfl rfl ?_)
   refine Rg_op rfl (op_assign (v := (Value.slice a_g55 v_2.length c_g55)) rfl ?_)
   refine Rg_nil ?_
   refine Wp_ret ?_
   obtain ⟨w222, hcl223, hs224, p225⟩ := St.close hs220
   replace f_g55 := f_g55.step p225; replace ch71 := ch71.trans p225; clear p225 hs220
   refine ⟨_, hcl223, [(Value.slice a_g55 v_2.length c_g55)], ⟨rfl, trivial⟩, hs224.ext, ?_⟩
   exact OkG.mkS (i := 1) (fun k hk => by simp [hk]) hs224 rfl f_g55 (Option.some.inj hm)
end Go.Fx



set_option linter.unusedVariables false
set_option linter.unusedSimpArgs false
set_option maxRecDepth 100000
set_option maxHeartbeats 0
namespace Go.Fx
open Go Go.RowKit Go.Proofs
def m17_configs_Reach_B0 (distances_1 : (List Int)) (sf52 : (List Int) → Int → Option ((List Int) × Int)) (l_1 : List Int) (v_2 : Int) : Option ((List Int) × Int) :=
 bif (decide (v_2 < (distances_1.length : Int))) then
  ck ((0 : Int) ≤ v_2 ∧ v_2 < (distances_1.length : Int)) <|
  bif (decide (0 ≤ (distances_1.getD v_2.toNat default))) then
   ck ((l_1.length + [v_2].length) * 8 ≤ 140737488355328) <|
   sf52 (l_1 ++ [v_2]) (IntKind.wrap .i64 (v_2 + 1))
  else
   sf52 l_1 (IntKind.wrap .i64 (v_2 + 1))
 else
  some (l_1, 0)

def m17_configs_Reach (a : XAirspace) (from_ : Int) : Option ((List Int) × Int) :=
 (m31_configs_divisions a).bind fun divisions_1 =>
 jn (fun (v_1 : Bool) =>
  bif v_1 then
   some (([] : List Int), 100)
  else
   (m34_configs_distances divisions_1.1 from_).bind fun distances_1 =>
   loop2 (m17_configs_Reach_B0 distances_1) (((distances_1.length : Int) - 0).toNat + 1) ([] : List Int) 0)
 (fun k21 =>
  bif (!divisions_1.2) then
   k21 true
  else
   bif (decide (from_ < 0)) then
    k21 true
   else
    k21 (decide ((divisions_1.1.length : Int) ≤ from_)))

theorem c17_configs_Reach {w : World} {O : List Nat} {a : XAirspace} {from_ : Int} {a_a_volumes : Option Addr} {c_a_volumes : Nat} {a_a_sectors : Option Addr} {c_a_sectors : Nat} {a_a_configs : Option Addr} {c_a_configs : Nat} {a_a_segments : Option Addr} {c_a_segments : Nat} {a_a_routes : Option Addr} {c_a_routes : Nat} {a_a_airports : Option Addr} {c_a_airports : Nat} {a_a_classes : Option Addr} {c_a_classes : Nat} {a_a_rules : Option Addr} {c_a_rules : Nat} (hO : ∀ k ∈ O, k < w.heap.size) (f_a_volumes : SlR rXVolume w O a_a_volumes c_a_volumes a.volumes) (f_a_sectors : SlR rXSector w O a_a_sectors c_a_sectors a.sectors) (f_a_configs : SlR rXConfig w O a_a_configs c_a_configs a.configs) (f_a_segments : SlR rXSegment w O a_a_segments c_a_segments a.segments) (f_a_routes : SlR rXRoute w O a_a_routes c_a_routes a.routes) (f_a_airports : SlR rXAirport w O a_a_airports c_a_airports a.airports) (f_a_classes : SlR rXClass w O a_a_classes c_a_classes a.classes) (f_a_rules : SlR rXRule w O a_a_rules c_a_rules a.rules) (r_from_ : InK .i64 from_) {x : (List Int) × Int} (hm : m17_configs_Reach a from_ = some x) :
  Ok Try.prog 17 [(Value.agg [(Value.slice a_a_volumes a.volumes.length c_a_volumes), (Value.slice a_a_sectors a.sectors.length c_a_sectors), (Value.slice a_a_configs a.configs.length c_a_configs), (Value.slice a_a_segments a.segments.length c_a_segments), (Value.slice a_a_routes a.routes.length c_a_routes), (Value.slice a_a_airports a.airports.length c_a_airports), (Value.slice a_a_classes a.classes.length c_a_classes), (Value.slice a_a_rules a.rules.length c_a_rules)].toArray), (Value.int .i64 from_)] w O (vT2 (vC (rSl (rInt .i64))) (vI .i64)) x := by
 unfold m17_configs_Reach at hm
 refine Fn_of_Wp (n := 44) (xs := [.tmp 4, .tmp 5]) Try.func17 rfl Try.ntmps17 Try.results17 rfl ?_
 have hs := St.start hO
 refine Wp_seq ?_
 refine Wp_region ?_
 refine Rg_op rfl (op_box (cs := [(Value.slice a_a_volumes a.volumes.length c_a_volumes), (Value.slice a_a_sectors a.sectors.length c_a_sectors), (Value.slice a_a_configs a.configs.length c_a_configs), (Value.slice a_a_segments a.segments.length c_a_segments), (Value.slice a_a_routes a.routes.length c_a_routes), (Value.slice a_a_airports a.airports.length c_a_airports), (Value.slice a_a_classes a.classes.length c_a_classes), (Value.slice a_a_rules a.rules.length c_a_rules)]) hs rfl rfl ?_)
 intro b1 w2 _ p3 hs4
 replace f_a_volumes := f_a_volumes.step p3; replace f_a_sectors := f_a_sectors.step p3; replace f_a_configs := f_a_configs.step p3; replace f_a_segments := f_a_segments.step p3; replace f_a_routes := f_a_routes.step p3; replace f_a_airports := f_a_airports.step p3; replace f_a_classes := f_a_classes.step p3; replace f_a_rules := f_a_rules.step p3; clear p3
 refine Rg_op rfl (op_assign (v := (Value.slice none 0 0)) rfl ?_)
 refine Rg_op rfl (op_assign (v := (Value.int .i64 0)) rfl ?_)
 refine Rg_nil ?_
 refine Wp_seq ?_
 refine Wp_region ?_
 refine Rg_op rfl (op_loadA (cs := [(Value.slice a_a_volumes a.volumes.length c_a_volumes), (Value.slice a_a_sectors a.sectors.length c_a_sectors), (Value.slice a_a_configs a.configs.length c_a_configs), (Value.slice a_a_segments a.segments.length c_a_segments), (Value.slice a_a_routes a.routes.length c_a_routes), (Value.slice a_a_airports a.airports.length c_a_airports), (Value.slice a_a_classes a.classes.length c_a_classes), (Value.slice a_a_rules a.rules.length c_a_rules)]) (vs := [(Value.slice a_a_volumes a.volumes.length c_a_volumes), (Value.slice a_a_sectors a.sectors.length c_a_sectors), (Value.slice a_a_configs a.configs.length c_a_configs), (Value.slice a_a_segments a.segments.length c_a_segments), (Value.slice a_a_routes a.routes.length c_a_routes), (Value.slice a_a_airports a.airports.length c_a_airports), (Value.slice a_a_classes a.classes.length c_a_classes), (Value.slice a_a_rules a.rules.length c_a_rules)]) (i := 0) ty31 hs4 rfl rfl rfl rfl ?_)
 replace hm := bd hm; obtain ⟨divisions_1, hv6, hm⟩ := hm
 refine Rg_op rfl (op_call Try.call31 (c31_configs_divisions (a := a) hs4.ltw f_a_volumes f_a_sectors f_a_configs f_a_segments f_a_routes f_a_airports f_a_classes f_a_rules hv6) rfl ?_)
 rintro v7 w8 ⟨hx9, h10⟩
 have hs11 := hs4.call hx9
 have p12 := Step.ext (O := ks [(some b1, Obj.cells [(Value.slice a_a_volumes a.volumes.length c_a_volumes), (Value.slice a_a_sectors a.sectors.length c_a_sectors), (Value.slice a_a_configs a.configs.length c_a_configs), (Value.slice a_a_segments a.segments.length c_a_segments), (Value.slice a_a_routes a.routes.length c_a_routes), (Value.slice a_a_airports a.airports.length c_a_airports), (Value.slice a_a_classes a.classes.length c_a_classes), (Value.slice a_a_rules a.rules.length c_a_rules)].toArray 31)] O) hx9
 clear hx9
 replace f_a_volumes := f_a_volumes.step p12; replace f_a_sectors := f_a_sectors.step p12; replace f_a_configs := f_a_configs.step p12; replace f_a_segments := f_a_segments.step p12; replace f_a_routes := f_a_routes.step p12; replace f_a_airports := f_a_airports.step p12; replace f_a_classes := f_a_classes.step p12; replace f_a_rules := f_a_rules.step p12; clear p12 hs4
 obtain ⟨v13, v14, rfl, h15, h16⟩ := h10
 obtain ⟨a_y17, c_y17, rfl, f_y17⟩ := un_sl h15
 obtain rfl := h16
 refine Rg_op rfl (op_move (v := (Value.tuple [(Value.slice a_y17 divisions_1.1.length c_y17), (Value.bool divisions_1.2)].toArray)) rfl ?_)
 refine Rg_op rfl (op_extract (v := (Value.slice a_y17 divisions_1.1.length c_y17)) rfl rfl ?_)
 refine Rg_op rfl (op_extract (v := (Value.bool divisions_1.2)) rfl rfl ?_)
 refine Rg_op rfl (op_assign (v := (Value.slice a_y17 divisions_1.1.length c_y17)) rfl ?_)
 refine Rg_op rfl (op_assign (v := (Value.bool divisions_1.2)) rfl ?_)
 refine Rg_nil ?_
 refine Wp_seq ?_
 refine Wp_reset [] [(1, (Value.int .i64 from_)), (4, (Value.slice none 0 0)), (6, (Value.slice a_y17 divisions_1.1.length c_y17)), (7, (Value.bool divisions_1.2))] rfl ⟨rfl, rfl, rfl, rfl, trivial⟩ fun ξ19 => ?_
 replace hm := jn_elim hm; obtain ⟨k21, hk22, hm⟩ := hm
 refine Wp_seqJ [15, 16, 17, 18, 19, 20, 21, 22, 23, 24, 25, 26] (fun fr w' => ∃ (v_1 : Bool) (Ebs : Ents), Ebs = [(some b1, Obj.cells [(Value.slice a_a_volumes a.volumes.length c_a_volumes), (Value.slice a_a_sectors a.sectors.length c_a_sectors), (Value.slice a_a_configs a.configs.length c_a_configs), (Value.slice a_a_segments a.segments.length c_a_segments), (Value.slice a_a_routes a.routes.length c_a_routes), (Value.slice a_a_airports a.airports.length c_a_airports), (Value.slice a_a_classes a.classes.length c_a_classes), (Value.slice a_a_rules a.rules.length c_a_rules)].toArray 31)] ∧ fr [] [(26, (Value.bool v_1))] ∧ Step (ks [(some b1, Obj.cells [(Value.slice a_a_volumes a.volumes.length c_a_volumes), (Value.slice a_a_sectors a.sectors.length c_a_sectors), (Value.slice a_a_configs a.configs.length c_a_configs), (Value.slice a_a_segments a.segments.length c_a_segments), (Value.slice a_a_routes a.routes.length c_a_routes), (Value.slice a_a_airports a.airports.length c_a_airports), (Value.slice a_a_classes a.classes.length c_a_classes), (Value.slice a_a_rules a.rules.length c_a_rules)].toArray 31)] O) w8 (ks Ebs O) w' ∧ St ⟨w, [], []⟩ O w' Ebs ∧ k21 v_1 = some x) ?_ ?_
 ·
  rintro ρ28 w24 ⟨v_1, Ebs, hEbs, hfr27, hst26, hs25, hm⟩
  replace hm := jnE1 hk22 hm
  subst hEbs; rw [hfr27.eq]; clear hfr27
  replace f_a_volumes := f_a_volumes.step hst26; replace f_a_sectors := f_a_sectors.step hst26; replace f_a_configs := f_a_configs.step hst26; replace f_a_segments := f_a_segments.step hst26; replace f_a_routes := f_a_routes.step hst26; replace f_a_airports := f_a_airports.step hst26; replace f_a_classes := f_a_classes.step hst26; replace f_a_rules := f_a_rules.step hst26; replace f_y17 := f_y17.step hst26; clear hst26 hs11
  refine Wp_cond rfl (fun hc29 => ?_) (fun hc29 => ?_)
  ·
   replace hm := bif_t hm hc29
   refine Wp_seq ?_
   obtain ⟨hs30, p31⟩ := hs25.sub (bs' := []) (.cons _ List.Sublist.slnil)
   clear f_a_volumes f_a_sectors f_a_configs f_a_segments f_a_routes f_a_airports f_a_classes f_a_rules f_y17
   clear p31 hs25
   refine Wp_region ?_
   refine Rg_op rfl (op_assign (v := (Value.slice none 0 0)) rfl ?_)
   refine Rg_op rfl (op_assign (v := (Value.int .i64 100)) rfl ?_)
   refine Rg_nil ?_
   refine Wp_ret ?_
   have hz := step_all hs30
   refine ⟨_, (show Closes [] _ _ from rfl), [(Value.slice none 0 0), (Value.int .i64 100)], ⟨rfl, rfl, trivial⟩, hs30.ext, ?_⟩
   exact Vr.eq (a := (vT2 (vC (rSl (rInt .i64))) (vI .i64))) (x := (([] : List Int), 100)) (mkT2 (mkC (mk_sl SlR.nil_)) ⟨rfl, (show InK .i64 100 from by decide)⟩) (Option.some.inj hm)
  ·
   replace hm := bif_f hm hc29
   refine Wp_skip ?_
   refine Wp_seq ?_
   refine Wp_seq ?_
   obtain ⟨hs32, p33⟩ := hs25.sub (bs' := []) (.cons _ List.Sublist.slnil)
   clear f_a_volumes f_a_sectors f_a_configs f_a_segments f_a_routes f_a_airports f_a_classes f_a_rules
   replace f_y17 := f_y17.step p33; clear p33 hs25
   refine Wp_region ?_
   refine Rg_op rfl (op_move (v := (Value.slice a_y17 divisions_1.1.length c_y17)) rfl ?_)
   refine Rg_op rfl (op_move (v := (Value.int .i64 from_)) rfl ?_)
   replace hm := bd hm; obtain ⟨distances_1, hv34, hm⟩ := hm
   refine Rg_op rfl (op_call Try.call34 (g34_configs_distances (l := divisions_1.1) (to := from_) hs32.ltw f_y17 r_from_ hv34) rfl ?_)
   rintro _ w36 ⟨hx37, a40, c41, k42, o43, rfl, hk44, f45⟩
   obtain ⟨hs39, p46⟩ := hs32.callG (o := o43) hx37 hk44
   rw [← ks_cons (o := o43)] at f45
   replace f_y17 := f_y17.step p46; clear p46 hs32
   refine Rg_op rfl (op_len Try.underlying39 rfl ?_)
   refine Rg_op rfl (op_move (v := (Value.int .i64 0)) rfl ?_)
   refine Rg_nil ?_
   refine Wp_block ?_
   refine Wp_reset [] [(4, (Value.slice none 0 0)), (29, (Value.slice a40 distances_1.length c41)), (30, (Value.int .i64 (distances_1.length : Int))), (31, (Value.int .i64 0))] rfl ⟨rfl, rfl, rfl, rfl, trivial⟩ fun ξ51 => ?_
   have hs56 := hs39.ghost (Obj.cells #[] 3)
   refine Wp_loopM [4, 8, 9, 31, 32, 33, 34, 35, 36, 37, 38, 39, 40, 41, 42] (fun m fr w' => ∃ (l_1 : List Int) (v_2 : Int) (a_g49 : Option Addr) (c_g49 : Nat) (k_g49 : Option Nat) (o_g49 : Obj) (Ebs : Ents), Ebs = [(k_g49, o_g49), (k42, o43)] ∧ fr [] [(4, (Value.slice a_g49 l_1.length c_g49)), (31, (Value.int .i64 v_2))] ∧ Step (ks [(none, (Obj.cells #[] 3)), (k42, o43)] O) w36 (ks Ebs O) w' ∧ St ⟨w, [], []⟩ O w' Ebs ∧ Gs (rInt .i64) 3 w' (ks Ebs O) a_g49 c_g49 l_1 k_g49 o_g49 ∧ InK .i64 v_2 ∧ loop2 (m17_configs_Reach_B0 distances_1) m l_1 v_2 = some x) (((distances_1.length : Int) - 0).toNat + 1) ⟨([] : List Int), 0, none, 0, none, (Obj.cells #[] 3), _, rfl, ⟨Out.refl _ _, rfl, rfl, rfl, trivial⟩, Step.refl _ _, hs56, Gs.nil_, (show InK .i64 0 from by decide), hm⟩ ?_ ?_
   · rintro _ _ ⟨_, _, _, _, _, _, _, _, _, _, _, _, _, hm⟩; exact loop2_z hm
   ·
    rintro m55 K54 hK54 ρ62 w58 ⟨l_1, v_2, a_g49, c_g49, k_g49, o_g49, Ebs, hEbs, hfr61, hst60, hs59, f_g49, r_y50, hm⟩
    obtain ⟨sf52, hsf53, hm⟩ := loop2_s hm; unfold m17_configs_Reach_B0 at hm
    subst hEbs; rw [hfr61.eq]; clear hfr61
    replace f_y17 := f_y17.step hst60; replace f45 := f45.step hst60
    have ch63 := hst60
    refine Wp_seq ?_
    clear f_y17
    refine Wp_region ?_
    refine Rg_op rfl (op_lss rfl rfl ?_)
    refine Rg_nil ?_
    refine Wp_seq ?_
    refine Wp_cond rfl (fun hc64 => ?_) (fun hc64 => ?_)
    ·
     replace hm := bif_t hm hc64
     refine Wp_skip ?_
     refine Wp_seq ?_
     refine Wp_block ?_
     refine Wp_seq ?_
     refine Wp_region ?_
     refine Rg_op rfl (op_move (v := (Value.int .i64 v_2)) rfl ?_)
     replace hm := ck_some hm; obtain ⟨hc65, hm⟩ := hm
     refine Rg_op rfl (op_indexAddrG ty39 ty3 rfl rfl f45 hc65 ?_)
     rintro b66 rfl rfl
     refine Rg_op rfl (op_loadG (i := 1) ty3 rfl hs59 rfl rfl f45 hc65 ?_)
     intro v67 h68
     obtain ⟨rfl, r_y69⟩ := un_int h68
     refine Rg_op rfl (op_assign (v := (Value.int .i64 v_2)) rfl ?_)
     refine Rg_op rfl (op_assign (v := (Value.int .i64 (distances_1.getD v_2.toNat default))) rfl ?_)
     refine Rg_nil ?_
     refine Wp_seq ?_
     refine Wp_region ?_
     refine Rg_op rfl (op_move (v := (Value.int .i64 (distances_1.getD v_2.toNat default))) rfl ?_)
     refine Rg_op rfl (op_geq rfl rfl ?_)
     refine Rg_nil ?_
     refine Wp_cond rfl (fun hc70 => ?_) (fun hc70 => ?_)
     ·
      replace hm := bif_t hm hc70
      refine Wp_region ?_
      refine Rg_op rfl (op_move (v := (Value.slice a_g49 l_1.length c_g49)) rfl ?_)
      refine Rg_op rfl (op_move (v := (Value.int .i64 v_2)) rfl ?_)
      refine Rg_op rfl (op_buildSlice (cs := [(Value.int .i64 v_2)]) (parts := [(0, .tmp 39)]) ty39 ty3 hs59 (by decide) rfl ?_)
      intro b71 w72 hx75 p73 hs74
      replace f45 := f45.step p73; replace f_g49 := f_g49.step p73; replace ch63 := ch63.trans p73; clear p73 hs59
      replace hm := ck_some hm; obtain ⟨hc77, hm⟩ := hm
      refine Rg_op rfl (op_append (q := (rInt .i64)) (i := 1) (xs := l_1) (ys := [v_2]) (news := [(Value.int .i64 v_2)]) ty39 ty3 rfl (by decide) hs74 rfl rfl f_g49 rfl (Src.owned' (len := 1) (hs74.get (i := 0) rfl) rfl) (show Els (rInt .i64) _ _ [(Value.int .i64 v_2)] [v_2] from ⟨_, _, rfl, (mk_int r_y50), Els.nil⟩) hc77 (by have := hc77; simp only [maxLen]; omega) ?_)
      intro a81 c82 k83 o84 w78 p79 hs80 f85
      replace f45 := f45.step p79; replace ch63 := ch63.trans p79; clear p79 hs74
      have hs86 := hs80.drop 0
      replace f45 := f45.step (hs80.dropS 0)
      replace f85 := f85.step (hs80.dropS 0)
      replace ch63 := ch63.trans (hs80.dropS 0); clear hs80
      refine Rg_op rfl (op_assign (v := (Value.slice a81 (l_1 ++ [v_2]).length c82)) rfl ?_)
      refine Rg_nil ?_
      refine Wp_region ?_
      refine Rg_op rfl (op_addw rfl rfl ?_)
      refine Rg_op rfl (op_move (v := (Value.int .i64 (IntKind.wrap .i64 (v_2 + 1)))) rfl ?_)
      refine Rg_nil ?_
      exact hK54 _ _ ⟨(l_1 ++ [v_2]), (IntKind.wrap .i64 (v_2 + 1)), a81, c82, k83, o84, _, rfl, ⟨(by repeat (first | with_reducible exact Out.refl _ _ | refine Out.upd ?_ rfl | refine Out.updL ?_ rfl | refine Out.mix' ?_ rfl | exact Out.refl _ _)), rfl, rfl, rfl, trivial⟩, ch63, hs86, f85, (inK_wrap .i64 _), jnE2 hsf53 hm⟩
     ·
      replace hm := bif_f hm hc70
      refine Wp_skip ?_
      refine Wp_region ?_
      refine Rg_op rfl (op_addw rfl rfl ?_)
      refine Rg_op rfl (op_move (v := (Value.int .i64 (IntKind.wrap .i64 (v_2 + 1)))) rfl ?_)
      refine Rg_nil ?_
      exact hK54 _ _ ⟨l_1, (IntKind.wrap .i64 (v_2 + 1)), a_g49, c_g49, k_g49, o_g49, _, rfl, ⟨(by repeat (first | with_reducible exact Out.refl _ _ | refine Out.upd ?_ rfl | refine Out.updL ?_ rfl | refine Out.mix' ?_ rfl | exact Out.refl _ _)), rfl, rfl, rfl, trivial⟩, ch63, hs59, f_g49, (inK_wrap .i64 _), jnE2 hsf53 hm⟩
    ·
     replace hm := bif_f hm hc64
     refine Wp_exit ?_
     refine Wp_seq ?_
     obtain ⟨hs87, p88⟩ := hs59.sub (bs' := [(k_g49, o_g49)]) (.cons_cons _ (.cons _ List.Sublist.slnil))
     clear f45
     replace f_g49 := f_g49.step p88; replace ch63 := ch63.trans p88; clear p88 hs59
     refine Wp_region ?_
     refine Rg_op rfl (op_move (v := (Value.slice a_g49 l_1.length c_g49)) rfl ?_)
     refine Rg_op rfl (op_assign (v := (Value.slice a_g49 l_1.length c_g49)) rfl ?_)
     refine Rg_op rfl (op_assign (v := (Value.int .i64 0)) rfl ?_)
     refine Rg_nil ?_
     refine Wp_ret ?_
     obtain ⟨hs90, p91, f89⟩ := Gs.publish (i := 0) hs87 rfl f_g49
     replace ch63 := ch63.trans p91; clear p91 hs87
     have hz := step_all hs90
     replace f89 := f89.step hz
     refine ⟨_, (show Closes [] _ _ from rfl), [(Value.slice a_g49 l_1.length c_g49), (Value.int .i64 0)], ⟨rfl, rfl, trivial⟩, hs90.ext, ?_⟩
     exact Vr.eq (a := (vT2 (vC (rSl (rInt .i64))) (vI .i64))) (x := (l_1, 0)) (mkT2 (mkC (mk_sl f89)) ⟨rfl, (show InK .i64 0 from by decide)⟩) (Option.some.inj hm)
 ·
  intro K23 hK23
  have ch92 := Step.refl (ks [(some b1, Obj.cells [(Value.slice a_a_volumes a.volumes.length c_a_volumes), (Value.slice a_a_sectors a.sectors.length c_a_sectors), (Value.slice a_a_configs a.configs.length c_a_configs), (Value.slice a_a_segments a.segments.length c_a_segments), (Value.slice a_a_routes a.routes.length c_a_routes), (Value.slice a_a_airports a.airports.length c_a_airports), (Value.slice a_a_classes a.classes.length c_a_classes), (Value.slice a_a_rules a.rules.length c_a_rules)].toArray 31)] O) w8
  refine Wp_region ?_
  refine Rg_op rfl (op_move (v := (Value.bool divisions_1.2)) rfl ?_)
  refine Rg_op rfl (op_not rfl ?_)
  refine Rg_op rfl (op_move (v := (Value.bool (!divisions_1.2))) rfl ?_)
  refine Rg_case (fun hg93 => ?_) (fun hg93 => ?_)
  ·
   replace hm := bif_t hm hg93
   iterate 2 refine Rg_opx rfl (asB_ne rfl rfl) rfl ?_
   refine Rg_op rfl (op_pick_t (v := (Value.bool true)) rfl rfl ?_)
   refine Rg_op rfl (op_move (v := (Value.bool true)) rfl ?_)
   iterate 4 refine Rg_opx rfl (asB_ne rfl rfl) rfl ?_
   refine Rg_op rfl (op_pick_t (v := (Value.bool true)) rfl rfl ?_)
   refine Rg_nil ?_
   exact hK23 _ _ ⟨true, _, rfl, ⟨(by repeat (first | with_reducible exact Out.refl _ _ | refine Out.upd ?_ rfl | refine Out.updL ?_ rfl | refine Out.mix' ?_ rfl | exact Out.refl _ _)), rfl, rfl, trivial⟩, ch92, hs11, hm⟩
  ·
   replace hm := bif_f hm hg93
   refine Rg_opg rfl rfl rfl (op_move (v := (Value.int .i64 from_)) rfl ?_)
   refine Rg_opg rfl rfl rfl (op_lss rfl rfl ?_)
   refine Rg_op rfl (op_pick_f (v := (Value.bool (decide (from_ < 0)))) rfl rfl ?_)
   refine Rg_op rfl (op_move (v := (Value.bool (decide (from_ < 0)))) rfl ?_)
   refine Rg_case (fun hg94 => ?_) (fun hg94 => ?_)
   ·
    replace hm := bif_t hm hg94
    iterate 4 refine Rg_opx rfl (asB_ne rfl rfl) rfl ?_
    refine Rg_op rfl (op_pick_t (v := (Value.bool true)) rfl rfl ?_)
    refine Rg_nil ?_
    exact hK23 _ _ ⟨true, _, rfl, ⟨(by repeat (first | with_reducible exact Out.refl _ _ | refine Out.upd ?_ rfl | refine Out.updL ?_ rfl | refine Out.mix' ?_ rfl | exact Out.refl _ _)), rfl, rfl, trivial⟩, ch92, hs11, hm⟩
   ·
    replace hm := bif_f hm hg94
    refine Rg_opg rfl rfl rfl (op_move (v := (Value.int .i64 from_)) rfl ?_)
    refine Rg_opg rfl rfl rfl (op_move (v := (Value.slice a_y17 divisions_1.1.length c_y17)) rfl ?_)
    refine Rg_opg rfl rfl rfl (op_len Try.underlying56 rfl ?_)
    refine Rg_opg rfl rfl rfl (op_geq rfl rfl ?_)
    refine Rg_op rfl (op_pick_f (v := (Value.bool (decide ((divisions_1.1.length : Int) ≤ from_)))) rfl rfl ?_)
    refine Rg_nil ?_
    exact hK23 _ _ ⟨(decide ((divisions_1.1.length : Int) ≤ from_)), _, rfl, ⟨(by repeat (first | with_reducible exact Out.refl _ _ | refine Out.upd ?_ rfl | refine Out.updL ?_ rfl | refine Out.mix' ?_ rfl | exact Out.refl _ _)), rfl, rfl, trivial⟩, ch92, hs11, hm⟩

end Go.Fx



set_option linter.unusedVariables false
set_option linter.unusedSimpArgs false
set_option maxRecDepth 100000
set_option maxHeartbeats 0
namespace Go.Fx
open Go Go.RowKit Go.Proofs
def m19_configs_Step (a : XAirspace) (from_ : Int) (to : Int) : Option Bool :=
 (m31_configs_divisions a).bind fun divisions_1 =>
 jn (fun (v_1 : Bool) =>
  bif v_1 then
   some false
  else
   ck ((0 : Int) ≤ from_ ∧ from_ < (divisions_1.1.length : Int)) <|
   ck ((0 : Int) ≤ to ∧ to < (divisions_1.1.length : Int)) <|
   (m36_configs_step (divisions_1.1.getD from_.toNat default) (divisions_1.1.getD to.toNat default)).bind fun step_1 =>
   some step_1)
 (fun k21 =>
  bif (!divisions_1.2) then
   k21 true
  else
   bif (decide (from_ < 0)) then
    k21 true
   else
    bif (decide ((divisions_1.1.length : Int) ≤ from_)) then
     k21 true
    else
     bif (decide (to < 0)) then
      k21 true
     else
      bif (decide ((divisions_1.1.length : Int) ≤ to)) then
       k21 true
      else
       k21 (decide (from_ = to)))

theorem c19_configs_Step {w : World} {O : List Nat} {a : XAirspace} {from_ : Int} {to : Int} {a_a_volumes : Option Addr} {c_a_volumes : Nat} {a_a_sectors : Option Addr} {c_a_sectors : Nat} {a_a_configs : Option Addr} {c_a_configs : Nat} {a_a_segments : Option Addr} {c_a_segments : Nat} {a_a_routes : Option Addr} {c_a_routes : Nat} {a_a_airports : Option Addr} {c_a_airports : Nat} {a_a_classes : Option Addr} {c_a_classes : Nat} {a_a_rules : Option Addr} {c_a_rules : Nat} (hO : ∀ k ∈ O, k < w.heap.size) (f_a_volumes : SlR rXVolume w O a_a_volumes c_a_volumes a.volumes) (f_a_sectors : SlR rXSector w O a_a_sectors c_a_sectors a.sectors) (f_a_configs : SlR rXConfig w O a_a_configs c_a_configs a.configs) (f_a_segments : SlR rXSegment w O a_a_segments c_a_segments a.segments) (f_a_routes : SlR rXRoute w O a_a_routes c_a_routes a.routes) (f_a_airports : SlR rXAirport w O a_a_airports c_a_airports a.airports) (f_a_classes : SlR rXClass w O a_a_classes c_a_classes a.classes) (f_a_rules : SlR rXRule w O a_a_rules c_a_rules a.rules) (r_from_ : InK .i64 from_) (r_to : InK .i64 to) {x : Bool} (hm : m19_configs_Step a from_ to = some x) :
  Ok Try.prog 19 [(Value.agg [(Value.slice a_a_volumes a.volumes.length c_a_volumes), (Value.slice a_a_sectors a.sectors.length c_a_sectors), (Value.slice a_a_configs a.configs.length c_a_configs), (Value.slice a_a_segments a.segments.length c_a_segments), (Value.slice a_a_routes a.routes.length c_a_routes), (Value.slice a_a_airports a.airports.length c_a_airports), (Value.slice a_a_classes a.classes.length c_a_classes), (Value.slice a_a_rules a.rules.length c_a_rules)].toArray), (Value.int .i64 from_), (Value.int .i64 to)] w O vB x := by
 unfold m19_configs_Step at hm
 refine Fn_of_Wp (n := 49) (xs := [.tmp 6]) Try.func19 rfl Try.ntmps19 Try.results19 rfl ?_
 have hs := St.start hO
 refine Wp_seq ?_
 refine Wp_region ?_
 refine Rg_op rfl (op_box (cs := [(Value.slice a_a_volumes a.volumes.length c_a_volumes), (Value.slice a_a_sectors a.sectors.length c_a_sectors), (Value.slice a_a_configs a.configs.length c_a_configs), (Value.slice a_a_segments a.segments.length c_a_segments), (Value.slice a_a_routes a.routes.length c_a_routes), (Value.slice a_a_airports a.airports.length c_a_airports), (Value.slice a_a_classes a.classes.length c_a_classes), (Value.slice a_a_rules a.rules.length c_a_rules)]) hs rfl rfl ?_)
 intro b1 w2 _ p3 hs4
 replace f_a_volumes := f_a_volumes.step p3; replace f_a_sectors := f_a_sectors.step p3; replace f_a_configs := f_a_configs.step p3; replace f_a_segments := f_a_segments.step p3; replace f_a_routes := f_a_routes.step p3; replace f_a_airports := f_a_airports.step p3; replace f_a_classes := f_a_classes.step p3; replace f_a_rules := f_a_rules.step p3; clear p3
 refine Rg_op rfl (op_assign (v := (Value.bool false)) rfl ?_)
 refine Rg_nil ?_
 refine Wp_seq ?_
 refine Wp_region ?_
 refine Rg_op rfl (op_loadA (cs := [(Value.slice a_a_volumes a.volumes.length c_a_volumes), (Value.slice a_a_sectors a.sectors.length c_a_sectors), (Value.slice a_a_configs a.configs.length c_a_configs), (Value.slice a_a_segments a.segments.length c_a_segments), (Value.slice a_a_routes a.routes.length c_a_routes), (Value.slice a_a_airports a.airports.length c_a_airports), (Value.slice a_a_classes a.classes.length c_a_classes), (Value.slice a_a_rules a.rules.length c_a_rules)]) (vs := [(Value.slice a_a_volumes a.volumes.length c_a_volumes), (Value.slice a_a_sectors a.sectors.length c_a_sectors), (Value.slice a_a_configs a.configs.length c_a_configs), (Value.slice a_a_segments a.segments.length c_a_segments), (Value.slice a_a_routes a.routes.length c_a_routes), (Value.slice a_a_airports a.airports.length c_a_airports), (Value.slice a_a_classes a.classes.length c_a_classes), (Value.slice a_a_rules a.rules.length c_a_rules)]) (i := 0) ty31 hs4 rfl rfl rfl rfl ?_)
 replace hm := bd hm; obtain ⟨divisions_1, hv6, hm⟩ := hm
 refine Rg_op rfl (op_call Try.call31 (c31_configs_divisions (a := a) hs4.ltw f_a_volumes f_a_sectors f_a_configs f_a_segments f_a_routes f_a_airports f_a_classes f_a_rules hv6) rfl ?_)
 rintro v7 w8 ⟨hx9, h10⟩
 have hs11 := hs4.call hx9
 have p12 := Step.ext (O := ks [(some b1, Obj.cells [(Value.slice a_a_volumes a.volumes.length c_a_volumes), (Value.slice a_a_sectors a.sectors.length c_a_sectors), (Value.slice a_a_configs a.configs.length c_a_configs), (Value.slice a_a_segments a.segments.length c_a_segments), (Value.slice a_a_routes a.routes.length c_a_routes), (Value.slice a_a_airports a.airports.length c_a_airports), (Value.slice a_a_classes a.classes.length c_a_classes), (Value.slice a_a_rules a.rules.length c_a_rules)].toArray 31)] O) hx9
 clear hx9
 replace f_a_volumes := f_a_volumes.step p12; replace f_a_sectors := f_a_sectors.step p12; replace f_a_configs := f_a_configs.step p12; replace f_a_segments := f_a_segments.step p12; replace f_a_routes := f_a_routes.step p12; replace f_a_airports := f_a_airports.step p12; replace f_a_classes := f_a_classes.step p12; replace f_a_rules := f_a_rules.step p12; clear p12 hs4
 obtain ⟨v13, v14, rfl, h15, h16⟩ := h10
 obtain ⟨a_y17, c_y17, rfl, f_y17⟩ := un_sl h15
 obtain rfl := h16
 refine Rg_op rfl (op_move (v := (Value.tuple [(Value.slice a_y17 divisions_1.1.length c_y17), (Value.bool divisions_1.2)].toArray)) rfl ?_)
 refine Rg_op rfl (op_extract (v := (Value.slice a_y17 divisions_1.1.length c_y17)) rfl rfl ?_)
 refine Rg_op rfl (op_extract (v := (Value.bool divisions_1.2)) rfl rfl ?_)
 refine Rg_op rfl (op_assign (v := (Value.slice a_y17 divisions_1.1.length c_y17)) rfl ?_)
 refine Rg_op rfl (op_assign (v := (Value.bool divisions_1.2)) rfl ?_)
 refine Rg_nil ?_
 refine Wp_seq ?_
 refine Wp_reset [] [(1, (Value.int .i64 from_)), (2, (Value.int .i64 to)), (6, (Value.bool divisions_1.2)), (7, (Value.slice a_y17 divisions_1.1.length c_y17))] rfl ⟨rfl, rfl, rfl, rfl, trivial⟩ fun ξ19 => ?_
 replace hm := jn_elim hm; obtain ⟨k21, hk22, hm⟩ := hm
 refine Wp_seqJ [13, 14, 15, 16, 17, 18, 19, 20, 21, 22, 23, 24, 25, 26, 27, 28, 29, 30, 31, 32, 33, 34, 35, 36, 37, 38, 39] (fun fr w' => ∃ (v_1 : Bool) (Ebs : Ents), Ebs = [(some b1, Obj.cells [(Value.slice a_a_volumes a.volumes.length c_a_volumes), (Value.slice a_a_sectors a.sectors.length c_a_sectors), (Value.slice a_a_configs a.configs.length c_a_configs), (Value.slice a_a_segments a.segments.length c_a_segments), (Value.slice a_a_routes a.routes.length c_a_routes), (Value.slice a_a_airports a.airports.length c_a_airports), (Value.slice a_a_classes a.classes.length c_a_classes), (Value.slice a_a_rules a.rules.length c_a_rules)].toArray 31)] ∧ fr [] [(39, (Value.bool v_1))] ∧ Step (ks [(some b1, Obj.cells [(Value.slice a_a_volumes a.volumes.length c_a_volumes), (Value.slice a_a_sectors a.sectors.length c_a_sectors), (Value.slice a_a_configs a.configs.length c_a_configs), (Value.slice a_a_segments a.segments.length c_a_segments), (Value.slice a_a_routes a.routes.length c_a_routes), (Value.slice a_a_airports a.airports.length c_a_airports), (Value.slice a_a_classes a.classes.length c_a_classes), (Value.slice a_a_rules a.rules.length c_a_rules)].toArray 31)] O) w8 (ks Ebs O) w' ∧ St ⟨w, [], []⟩ O w' Ebs ∧ k21 v_1 = some x) ?_ ?_
 ·
  rintro ρ28 w24 ⟨v_1, Ebs, hEbs, hfr27, hst26, hs25, hm⟩
  replace hm := jnE1 hk22 hm
  subst hEbs; rw [hfr27.eq]; clear hfr27
  replace f_a_volumes := f_a_volumes.step hst26; replace f_a_sectors := f_a_sectors.step hst26; replace f_a_configs := f_a_configs.step hst26; replace f_a_segments := f_a_segments.step hst26; replace f_a_routes := f_a_routes.step hst26; replace f_a_airports := f_a_airports.step hst26; replace f_a_classes := f_a_classes.step hst26; replace f_a_rules := f_a_rules.step hst26; replace f_y17 := f_y17.step hst26; clear hst26 hs11
  refine Wp_cond rfl (fun hc29 => ?_) (fun hc29 => ?_)
  ·
   replace hm := bif_t hm hc29
   refine Wp_seq ?_
   obtain ⟨hs30, p31⟩ := hs25.sub (bs' := []) (.cons _ List.Sublist.slnil)
   clear f_a_volumes f_a_sectors f_a_configs f_a_segments f_a_routes f_a_airports f_a_classes f_a_rules f_y17
   clear p31 hs25
   refine Wp_region ?_
   refine Rg_op rfl (op_assign (v := (Value.bool false)) rfl ?_)
   refine Rg_nil ?_
   refine Wp_ret ?_
   have hz := step_all hs30
   refine ⟨_, (show Closes [] _ _ from rfl), [(Value.bool false)], ⟨rfl, trivial⟩, hs30.ext, ?_⟩
   exact Vr.eq (a := vB) (x := false) rfl (Option.some.inj hm)
  ·
   replace hm := bif_f hm hc29
   refine Wp_skip ?_
   refine Wp_seq ?_
   obtain ⟨hs32, p33⟩ := hs25.sub (bs' := []) (.cons _ List.Sublist.slnil)
   clear f_a_volumes f_a_sectors f_a_configs f_a_segments f_a_routes f_a_airports f_a_classes f_a_rules
   replace f_y17 := f_y17.step p33; clear p33 hs25
   refine Wp_drawR (g0 := []) (m := 8) (fl := []) (TS_inv hs32) (.inl rfl) rfl (by decide +kernel) ?_  -- 4
   refine Dw_eq (Value.slice a_y17 divisions_1.1.length c_y17) (fun ρ34 w35 g hle hi ht => ?_) ?_
   ·
    obtain ⟨-, hst, -⟩ := hle
    refine StepOp_plain (op_move (v := (Value.slice a_y17 divisions_1.1.length c_y17)) (ht 7 rfl) ?_)
    exact Goes.same hi rfl
   refine Dw_eq (Value.int .i64 from_) (fun ρ37 w38 g hle hi ht => ?_) ?_
   ·
    obtain ⟨-, hst, -⟩ := hle
    refine StepOp_plain (op_move (v := (Value.int .i64 from_)) (ht 1 rfl) ?_)
    exact Goes.same hi rfl
   replace hm := ck_some hm; obtain ⟨hc43, hm⟩ := hm
   refine Dw_op (VP O [] (rMp .u64 mvB) (divisions_1.1.getD from_.toNat default)) (VP.stab _ _) (fun ρ40 w41 g hle hi ht => ?_) ?_
   ·
    obtain ⟨-, hst, -⟩ := hle
    replace f_y17 := f_y17.step hst
    refine StepOp_plain (op_indexAddr (q := (rMp .u64 mvB)) ty56 ty63 (ht 40 rfl) (ht 41 rfl) f_y17 rfl hc43.1 hc43.2 ?_)
    intro p44 f45
    exact Goes.same hi ⟨_, rfl, f45⟩
   refine Dw_op (VD O [] (vC (rMp .u64 mvB)) (divisions_1.1.getD from_.toNat default)) (VD.stab _ _) (fun ρ46 w47 g hle hi ht => ?_) ?_
   ·
    obtain ⟨-, hst, -⟩ := hle
    obtain ⟨p49, q50, f51⟩ := ht 42 rfl
    refine StepOp_plain (op_loadP ty63 q50 f51 rfl ?_)
    intro v52 h53
    have M54 := un_mp h53; clear h53
    exact Goes.same hi (show Vr.vd (vC (rMp .u64 mvB)) _ _ _ _ from (mkC (mk_mp M54)))
   refine Dw_eq (Value.slice a_y17 divisions_1.1.length c_y17) (fun ρ55 w56 g hle hi ht => ?_) ?_
   ·
    obtain ⟨-, hst, -⟩ := hle
    refine StepOp_plain (op_move (v := (Value.slice a_y17 divisions_1.1.length c_y17)) (ht 7 rfl) ?_)
    exact Goes.same hi rfl
   refine Dw_eq (Value.int .i64 to) (fun ρ58 w59 g hle hi ht => ?_) ?_
   ·
    obtain ⟨-, hst, -⟩ := hle
    refine StepOp_plain (op_move (v := (Value.int .i64 to)) (ht 2 rfl) ?_)
    exact Goes.same hi rfl
   replace hm := ck_some hm; obtain ⟨hc64, hm⟩ := hm
   refine Dw_op (VP O [] (rMp .u64 mvB) (divisions_1.1.getD to.toNat default)) (VP.stab _ _) (fun ρ61 w62 g hle hi ht => ?_) ?_
   ·
    obtain ⟨-, hst, -⟩ := hle
    replace f_y17 := f_y17.step hst
    refine StepOp_plain (op_indexAddr (q := (rMp .u64 mvB)) ty56 ty63 (ht 44 rfl) (ht 45 rfl) f_y17 rfl hc64.1 hc64.2 ?_)
    intro p65 f66
    exact Goes.same hi ⟨_, rfl, f66⟩
   refine Dw_op (VD O [] (vC (rMp .u64 mvB)) (divisions_1.1.getD to.toNat default)) (VD.stab _ _) (fun ρ67 w68 g hle hi ht => ?_) ?_
   ·
    obtain ⟨-, hst, -⟩ := hle
    obtain ⟨p70, q71, f72⟩ := ht 46 rfl
    refine StepOp_plain (op_loadP ty63 q71 f72 rfl ?_)
    intro v73 h74
    have M75 := un_mp h74; clear h74
    exact Goes.same hi (show Vr.vd (vC (rMp .u64 mvB)) _ _ _ _ from (mkC (mk_mp M75)))
   refine Dw_nil fun w80 g81 hl82 hi83 => ?_
   obtain ⟨-, hst84, -⟩ := hl82
   obtain ⟨hs86, p85⟩ := Step.nx hi83
   rintro v87 h88
   replace h88 : Vr.vd (vC (rMp .u64 mvB)) _ _ _ _ := h88
   have M_y89 : MpR .u64 mvB _ _ v87 (divisions_1.1.getD to.toNat default) := un_mp h88
   rintro _ ⟨p90, rfl, f91⟩
   rintro _ rfl
   rintro _ rfl
   rintro v92 h93
   replace h93 : Vr.vd (vC (rMp .u64 mvB)) _ _ _ _ := h93
   have M_y94 : MpR .u64 mvB _ _ v92 (divisions_1.1.getD from_.toNat default) := un_mp h93
   rintro _ ⟨p95, rfl, f96⟩
   rintro _ rfl
   rintro _ rfl
   have p97 : Step (ks [] O) w24 (ks [] O) w80 := hst84.trans p85
   replace M_y89 := M_y89.step p85; replace f91 := f91.step p85; replace M_y94 := M_y94.step p85; replace f96 := f96.step p85; replace f_y17 := f_y17.step p97; clear p97 hs32
   replace hm := bd hm; obtain ⟨step_1, hv98, hm⟩ := hm
   refine Rg_op rfl (op_call Try.call36 (c36_configs_step (d := (divisions_1.1.getD from_.toNat default)) (other := (divisions_1.1.getD to.toNat default)) hs86.ltw M_y94 M_y89 hv98) rfl ?_)
   rintro v99 w100 ⟨hx101, h102⟩
   have hs103 := hs86.call hx101
   have p104 := Step.ext (O := ks [] O) hx101
   clear hx101
   replace f_y17 := f_y17.step p104; replace M_y89 := M_y89.step p104; replace f91 := f91.step p104; replace M_y94 := M_y94.step p104; replace f96 := f96.step p104; clear p104 hs86
   obtain rfl := h102
   refine Rg_op rfl (op_assign (v := (Value.bool step_1)) rfl ?_)
   refine Rg_nil ?_
   refine Wp_ret ?_
   have hz := step_all hs103
   replace f_y17 := f_y17.step hz; replace M_y89 := M_y89.step hz; replace f91 := f91.step hz; replace M_y94 := M_y94.step hz; replace f96 := f96.step hz
   refine ⟨_, (show Closes [] _ _ from rfl), [(Value.bool step_1)], ⟨rfl, trivial⟩, hs103.ext, ?_⟩
   exact Vr.eq (a := vB) (x := step_1) rfl (Option.some.inj hm)
 ·
  intro K23 hK23
  have ch106 := Step.refl (ks [(some b1, Obj.cells [(Value.slice a_a_volumes a.volumes.length c_a_volumes), (Value.slice a_a_sectors a.sectors.length c_a_sectors), (Value.slice a_a_configs a.configs.length c_a_configs), (Value.slice a_a_segments a.segments.length c_a_segments), (Value.slice a_a_routes a.routes.length c_a_routes), (Value.slice a_a_airports a.airports.length c_a_airports), (Value.slice a_a_classes a.classes.length c_a_classes), (Value.slice a_a_rules a.rules.length c_a_rules)].toArray 31)] O) w8
  refine Wp_region ?_
  refine Rg_op rfl (op_move (v := (Value.bool divisions_1.2)) rfl ?_)
  refine Rg_op rfl (op_not rfl ?_)
  refine Rg_op rfl (op_move (v := (Value.bool (!divisions_1.2))) rfl ?_)
  refine Rg_case (fun hg107 => ?_) (fun hg107 => ?_)
  ·
   replace hm := bif_t hm hg107
   iterate 2 refine Rg_opx rfl (asB_ne rfl rfl) rfl ?_
   refine Rg_op rfl (op_pick_t (v := (Value.bool true)) rfl rfl ?_)
   refine Rg_op rfl (op_move (v := (Value.bool true)) rfl ?_)
   iterate 4 refine Rg_opx rfl (asB_ne rfl rfl) rfl ?_
   refine Rg_op rfl (op_pick_t (v := (Value.bool true)) rfl rfl ?_)
   refine Rg_op rfl (op_move (v := (Value.bool true)) rfl ?_)
   iterate 2 refine Rg_opx rfl (asB_ne rfl rfl) rfl ?_
   refine Rg_op rfl (op_pick_t (v := (Value.bool true)) rfl rfl ?_)
   refine Rg_op rfl (op_move (v := (Value.bool true)) rfl ?_)
   iterate 4 refine Rg_opx rfl (asB_ne rfl rfl) rfl ?_
   refine Rg_op rfl (op_pick_t (v := (Value.bool true)) rfl rfl ?_)
   refine Rg_op rfl (op_move (v := (Value.bool true)) rfl ?_)
   iterate 3 refine Rg_opx rfl (asB_ne rfl rfl) rfl ?_
   refine Rg_op rfl (op_pick_t (v := (Value.bool true)) rfl rfl ?_)
   refine Rg_nil ?_
   exact hK23 _ _ ⟨true, _, rfl, ⟨(by repeat (first | with_reducible exact Out.refl _ _ | refine Out.upd ?_ rfl | refine Out.updL ?_ rfl | refine Out.mix' ?_ rfl | exact Out.refl _ _)), rfl, rfl, trivial⟩, ch106, hs11, hm⟩
  ·
   replace hm := bif_f hm hg107
   refine Rg_opg rfl rfl rfl (op_move (v := (Value.int .i64 from_)) rfl ?_)
   refine Rg_opg rfl rfl rfl (op_lss rfl rfl ?_)
   refine Rg_op rfl (op_pick_f (v := (Value.bool (decide (from_ < 0)))) rfl rfl ?_)
   refine Rg_op rfl (op_move (v := (Value.bool (decide (from_ < 0)))) rfl ?_)
   refine Rg_case (fun hg108 => ?_) (fun hg108 => ?_)
   ·
    replace hm := bif_t hm hg108
    iterate 4 refine Rg_opx rfl (asB_ne rfl rfl) rfl ?_
    refine Rg_op rfl (op_pick_t (v := (Value.bool true)) rfl rfl ?_)
    refine Rg_op rfl (op_move (v := (Value.bool true)) rfl ?_)
    iterate 2 refine Rg_opx rfl (asB_ne rfl rfl) rfl ?_
    refine Rg_op rfl (op_pick_t (v := (Value.bool true)) rfl rfl ?_)
    refine Rg_op rfl (op_move (v := (Value.bool true)) rfl ?_)
    iterate 4 refine Rg_opx rfl (asB_ne rfl rfl) rfl ?_
    refine Rg_op rfl (op_pick_t (v := (Value.bool true)) rfl rfl ?_)
    refine Rg_op rfl (op_move (v := (Value.bool true)) rfl ?_)
    iterate 3 refine Rg_opx rfl (asB_ne rfl rfl) rfl ?_
    refine Rg_op rfl (op_pick_t (v := (Value.bool true)) rfl rfl ?_)
    refine Rg_nil ?_
    exact hK23 _ _ ⟨true, _, rfl, ⟨(by repeat (first | with_reducible exact Out.refl _ _ | refine Out.upd ?_ rfl | refine Out.updL ?_ rfl | refine Out.mix' ?_ rfl | exact Out.refl _ _)), rfl, rfl, trivial⟩, ch106, hs11, hm⟩
   ·
    replace hm := bif_f hm hg108
    refine Rg_opg rfl rfl rfl (op_move (v := (Value.int .i64 from_)) rfl ?_)
    refine Rg_opg rfl rfl rfl (op_move (v := (Value.slice a_y17 divisions_1.1.length c_y17)) rfl ?_)
    refine Rg_opg rfl rfl rfl (op_len Try.underlying56 rfl ?_)
    refine Rg_opg rfl rfl rfl (op_geq rfl rfl ?_)
    refine Rg_op rfl (op_pick_f (v := (Value.bool (decide ((divisions_1.1.length : Int) ≤ from_)))) rfl rfl ?_)
    refine Rg_op rfl (op_move (v := (Value.bool (decide ((divisions_1.1.length : Int) ≤ from_)))) rfl ?_)
    refine Rg_case (fun hg109 => ?_) (fun hg109 => ?_)
    ·
     replace hm := bif_t hm hg109
     iterate 2 refine Rg_opx rfl (asB_ne rfl rfl) rfl ?_
     refine Rg_op rfl (op_pick_t (v := (Value.bool true)) rfl rfl ?_)
     refine Rg_op rfl (op_move (v := (Value.bool true)) rfl ?_)
     iterate 4 refine Rg_opx rfl (asB_ne rfl rfl) rfl ?_
     refine Rg_op rfl (op_pick_t (v := (Value.bool true)) rfl rfl ?_)
     refine Rg_op rfl (op_move (v := (Value.bool true)) rfl ?_)
     iterate 3 refine Rg_opx rfl (asB_ne rfl rfl) rfl ?_
     refine Rg_op rfl (op_pick_t (v := (Value.bool true)) rfl rfl ?_)
     refine Rg_nil ?_
     exact hK23 _ _ ⟨true, _, rfl, ⟨(by repeat (first | with_reducible exact Out.refl _ _ | refine Out.upd ?_ rfl | refine Out.updL ?_ rfl | refine Out.mix' ?_ rfl | exact Out.refl _ _)), rfl, rfl, trivial⟩, ch106, hs11, hm⟩
    ·
     replace hm := bif_f hm hg109
     refine Rg_opg rfl rfl rfl (op_move (v := (Value.int .i64 to)) rfl ?_)
     refine Rg_opg rfl rfl rfl (op_lss rfl rfl ?_)
     refine Rg_op rfl (op_pick_f (v := (Value.bool (decide (to < 0)))) rfl rfl ?_)
     refine Rg_op rfl (op_move (v := (Value.bool (decide (to < 0)))) rfl ?_)
     refine Rg_case (fun hg110 => ?_) (fun hg110 => ?_)
     ·
      replace hm := bif_t hm hg110
      iterate 4 refine Rg_opx rfl (asB_ne rfl rfl) rfl ?_
      refine Rg_op rfl (op_pick_t (v := (Value.bool true)) rfl rfl ?_)
      refine Rg_op rfl (op_move (v := (Value.bool true)) rfl ?_)
      iterate 3 refine Rg_opx rfl (asB_ne rfl rfl) rfl ?_
      refine Rg_op rfl (op_pick_t (v := (Value.bool true)) rfl rfl ?_)
      refine Rg_nil ?_
      exact hK23 _ _ ⟨true, _, rfl, ⟨(by repeat (first | with_reducible exact Out.refl _ _ | refine Out.upd ?_ rfl | refine Out.updL ?_ rfl | refine Out.mix' ?_ rfl | exact Out.refl _ _)), rfl, rfl, trivial⟩, ch106, hs11, hm⟩
     ·
      replace hm := bif_f hm hg110
      refine Rg_opg rfl rfl rfl (op_move (v := (Value.int .i64 to)) rfl ?_)
      refine Rg_opg rfl rfl rfl (op_move (v := (Value.slice a_y17 divisions_1.1.length c_y17)) rfl ?_)
      refine Rg_opg rfl rfl rfl (op_len Try.underlying56 rfl ?_)
      refine Rg_opg rfl rfl rfl (op_geq rfl rfl ?_)
      refine Rg_op rfl (op_pick_f (v := (Value.bool (decide ((divisions_1.1.length : Int) ≤ to)))) rfl rfl ?_)
      refine Rg_op rfl (op_move (v := (Value.bool (decide ((divisions_1.1.length : Int) ≤ to)))) rfl ?_)
      refine Rg_case (fun hg111 => ?_) (fun hg111 => ?_)
      ·
       replace hm := bif_t hm hg111
       iterate 3 refine Rg_opx rfl (asB_ne rfl rfl) rfl ?_
       refine Rg_op rfl (op_pick_t (v := (Value.bool true)) rfl rfl ?_)
       refine Rg_nil ?_
       exact hK23 _ _ ⟨true, _, rfl, ⟨(by repeat (first | with_reducible exact Out.refl _ _ | refine Out.upd ?_ rfl | refine Out.updL ?_ rfl | refine Out.mix' ?_ rfl | exact Out.refl _ _)), rfl, rfl, trivial⟩, ch106, hs11, hm⟩
      ·
       replace hm := bif_f hm hg111
       refine Rg_opg rfl rfl rfl (op_move (v := (Value.int .i64 from_)) rfl ?_)
       refine Rg_opg rfl rfl rfl (op_move (v := (Value.int .i64 to)) rfl ?_)
       refine Rg_opg rfl rfl rfl (op_eql rfl rfl ?_)
       refine Rg_op rfl (op_pick_f (v := (Value.bool (decide (from_ = to)))) rfl rfl ?_)
       refine Rg_nil ?_
       exact hK23 _ _ ⟨(decide (from_ = to)), _, rfl, ⟨(by repeat (first | with_reducible exact Out.refl _ _ | refine Out.upd ?_ rfl | refine Out.updL ?_ rfl | refine Out.mix' ?_ rfl | exact Out.refl _ _)), rfl, rfl, trivial⟩, ch106, hs11, hm⟩

end Go.Fx



set_option linter.unusedVariables false
set_option linter.unusedSimpArgs false
set_option maxRecDepth 100000
set_option maxHeartbeats 0
namespace Go.Fx
open Go Go.RowKit Go.Proofs
def m21_overflightref10_SameInts_B0 (a : List Int) (b : List Int) (sf4 : Int → Option Bool) (i_1 : Int) : Option Bool :=
 bif (decide (i_1 < (a.length : Int))) then
  ck ((0 : Int) ≤ i_1 ∧ i_1 < (a.length : Int)) <|
  ck ((0 : Int) ≤ i_1 ∧ i_1 < (b.length : Int)) <|
  bif (decide ((a.getD i_1.toNat default) ≠ (b.getD i_1.toNat default))) then
   some false
  else
   sf4 (IntKind.wrap .i64 (i_1 + 1))
 else
  some true

def m21_overflightref10_SameInts (a : List Int) (b : List Int) : Option Bool :=
 bif (decide ((a.length : Int) ≠ (b.length : Int))) then
  some false
 else
  loop1 (m21_overflightref10_SameInts_B0 a b) (((a.length : Int) - 0).toNat + 1) 0

theorem c21_overflightref10_SameInts {w : World} {O : List Nat} {a : List Int} {b : List Int} {a_a : Option Addr} {c_a : Nat} {a_b : Option Addr} {c_b : Nat} (hO : ∀ k ∈ O, k < w.heap.size) (f_a : SlR (rInt .i64) w O a_a c_a a) (f_b : SlR (rInt .i64) w O a_b c_b b) {x : Bool} (hm : m21_overflightref10_SameInts a b = some x) :
  Ok Try.prog 21 [(Value.slice a_a a.length c_a), (Value.slice a_b b.length c_b)] w O vB x := by
 unfold m21_overflightref10_SameInts at hm
 refine Fn_of_Wp (n := 26) (xs := [.tmp 4]) Try.func21 rfl Try.ntmps21 Try.results21 rfl ?_
 have hs := St.start hO
 refine Wp_seq ?_
 refine Wp_region ?_
 refine Rg_op rfl (op_assign (v := (Value.bool false)) rfl ?_)
 refine Rg_nil ?_
 refine Wp_seq ?_
 refine Wp_seq ?_
 refine Wp_region ?_
 refine Rg_op rfl (op_move (v := (Value.slice a_a a.length c_a)) rfl ?_)
 refine Rg_op rfl (op_len Try.underlying39 rfl ?_)
 refine Rg_op rfl (op_move (v := (Value.slice a_b b.length c_b)) rfl ?_)
 refine Rg_op rfl (op_len Try.underlying39 rfl ?_)
 refine Rg_op rfl (op_neq rfl rfl ?_)
 refine Rg_nil ?_
 refine Wp_cond rfl (fun hc1 => ?_) (fun hc1 => ?_)
 ·
  replace hm := bif_t hm hc1
  refine Wp_seq ?_
  clear f_a f_b
  refine Wp_region ?_
  refine Rg_op rfl (op_assign (v := (Value.bool false)) rfl ?_)
  refine Rg_nil ?_
  refine Wp_ret ?_
  have hz := step_all hs
  refine ⟨_, (show Closes [] _ _ from rfl), [(Value.bool false)], ⟨rfl, trivial⟩, hs.ext, ?_⟩
  exact Vr.eq (a := vB) (x := false) rfl (Option.some.inj hm)
 ·
  replace hm := bif_f hm hc1
  refine Wp_skip ?_
  refine Wp_seq ?_
  refine Wp_seq ?_
  refine Wp_region ?_
  refine Rg_op rfl (op_assign (v := (Value.int .i64 0)) rfl ?_)
  refine Rg_nil ?_
  refine Wp_block ?_
  refine Wp_reset [] [(0, (Value.slice a_a a.length c_a)), (1, (Value.slice a_b b.length c_b)), (5, (Value.int .i64 0))] rfl ⟨rfl, rfl, rfl, trivial⟩ fun ξ3 => ?_
  refine Wp_loopM [4, 5, 11, 12, 13, 14, 15, 16, 17, 18, 19, 20, 21, 22, 23, 24, 25] (fun m fr w' => ∃ (i_1 : Int) (Ebs : Ents), Ebs = [] ∧ fr [] [(5, (Value.int .i64 i_1))] ∧ Step (ks [] O) w (ks Ebs O) w' ∧ St ⟨w, [], []⟩ O w' Ebs ∧ InK .i64 i_1 ∧ loop1 (m21_overflightref10_SameInts_B0 a b) m i_1 = some x) (((a.length : Int) - 0).toNat + 1) ⟨0, _, rfl, ⟨Out.refl _ _, rfl, rfl, trivial⟩, Step.refl _ _, hs, (show InK .i64 0 from by decide), hm⟩ ?_ ?_
  · rintro _ _ ⟨_, _, _, _, _, _, _, hm⟩; exact loop1_z hm
  ·
   rintro m7 K6 hK6 ρ12 w8 ⟨i_1, Ebs, hEbs, hfr11, hst10, hs9, r_y2, hm⟩
   obtain ⟨sf4, hsf5, hm⟩ := loop1_s hm; unfold m21_overflightref10_SameInts_B0 at hm
   subst hEbs; rw [hfr11.eq]; clear hfr11
   replace f_a := f_a.step hst10; replace f_b := f_b.step hst10
   have ch13 := hst10
   refine Wp_seq ?_
   refine Wp_seq ?_
   refine Wp_region ?_
   refine Rg_op rfl (op_move (v := (Value.int .i64 i_1)) rfl ?_)
   refine Rg_op rfl (op_move (v := (Value.slice a_a a.length c_a)) rfl ?_)
   refine Rg_op rfl (op_len Try.underlying39 rfl ?_)
   refine Rg_op rfl (op_lss rfl rfl ?_)
   refine Rg_nil ?_
   refine Wp_cond rfl (fun hc14 => ?_) (fun hc14 => ?_)
   ·
    replace hm := bif_t hm hc14
    refine Wp_skip ?_
    refine Wp_seq ?_
    refine Wp_block ?_
    refine Wp_seq ?_
    refine Wp_drawR (g0 := []) (m := 8) (fl := []) (TS_inv hs9) (.inl rfl) rfl (by decide +kernel) ?_  -- 6
    refine Dw_eq (Value.slice a_a a.length c_a) (fun ρ15 w16 g hle hi ht => ?_) ?_
    ·
     obtain ⟨-, hst, -⟩ := hle
     refine StepOp_plain (op_move (v := (Value.slice a_a a.length c_a)) (ht 0 rfl) ?_)
     exact Goes.same hi rfl
    refine Dw_eq (Value.int .i64 i_1) (fun ρ18 w19 g hle hi ht => ?_) ?_
    ·
     obtain ⟨-, hst, -⟩ := hle
     refine StepOp_plain (op_move (v := (Value.int .i64 i_1)) (ht 5 rfl) ?_)
     exact Goes.same hi rfl
    replace hm := ck_some hm; obtain ⟨hc24, hm⟩ := hm
    refine Dw_op (VP O [] (rInt .i64) (a.getD i_1.toNat default)) (VP.stab _ _) (fun ρ21 w22 g hle hi ht => ?_) ?_
    ·
     obtain ⟨-, hst, -⟩ := hle
     replace f_a := f_a.step hst
     refine StepOp_plain (op_indexAddr (q := (rInt .i64)) ty39 ty3 (ht 17 rfl) (ht 18 rfl) f_a rfl hc24.1 hc24.2 ?_)
     intro p25 f26
     exact Goes.same hi ⟨_, rfl, f26⟩
    refine Dw_op (VD O [] (vI .i64) (a.getD i_1.toNat default)) (VD.stab _ _) (fun ρ27 w28 g hle hi ht => ?_) ?_
    ·
     obtain ⟨-, hst, -⟩ := hle
     obtain ⟨p30, q31, f32⟩ := ht 19 rfl
     refine StepOp_plain (op_loadP ty3 q31 f32 rfl ?_)
     intro v33 h34
     obtain ⟨rfl, r_y35⟩ := un_int h34
     exact Goes.same hi (show Vr.vd (vI .i64) _ _ _ _ from ⟨rfl, r_y35⟩)
    refine Dw_eq (Value.slice a_b b.length c_b) (fun ρ36 w37 g hle hi ht => ?_) ?_
    ·
     obtain ⟨-, hst, -⟩ := hle
     refine StepOp_plain (op_move (v := (Value.slice a_b b.length c_b)) (ht 1 rfl) ?_)
     exact Goes.same hi rfl
    refine Dw_eq (Value.int .i64 i_1) (fun ρ39 w40 g hle hi ht => ?_) ?_
    ·
     obtain ⟨-, hst, -⟩ := hle
     refine StepOp_plain (op_move (v := (Value.int .i64 i_1)) (ht 5 rfl) ?_)
     exact Goes.same hi rfl
    replace hm := ck_some hm; obtain ⟨hc45, hm⟩ := hm
    refine Dw_op (VP O [] (rInt .i64) (b.getD i_1.toNat default)) (VP.stab _ _) (fun ρ42 w43 g hle hi ht => ?_) ?_
    ·
     obtain ⟨-, hst, -⟩ := hle
     replace f_b := f_b.step hst
     refine StepOp_plain (op_indexAddr (q := (rInt .i64)) ty39 ty3 (ht 21 rfl) (ht 22 rfl) f_b rfl hc45.1 hc45.2 ?_)
     intro p46 f47
     exact Goes.same hi ⟨_, rfl, f47⟩
    refine Dw_op (VD O [] (vI .i64) (b.getD i_1.toNat default)) (VD.stab _ _) (fun ρ48 w49 g hle hi ht => ?_) ?_
    ·
     obtain ⟨-, hst, -⟩ := hle
     obtain ⟨p51, q52, f53⟩ := ht 23 rfl
     refine StepOp_plain (op_loadP ty3 q52 f53 rfl ?_)
     intro v54 h55
     obtain ⟨rfl, r_y56⟩ := un_int h55
     exact Goes.same hi (show Vr.vd (vI .i64) _ _ _ _ from ⟨rfl, r_y56⟩)
    refine Dw_nil fun w61 g62 hl63 hi64 => ?_
    obtain ⟨-, hst65, -⟩ := hl63
    obtain ⟨hs67, p66⟩ := Step.nx hi64
    rintro v68 h69
    replace h69 : Vr.vd (vI .i64) _ _ _ _ := h69
    obtain ⟨rfl, r_y70⟩ := h69
    rintro _ ⟨p71, rfl, f72⟩
    rintro _ rfl
    rintro _ rfl
    rintro v73 h74
    replace h74 : Vr.vd (vI .i64) _ _ _ _ := h74
    obtain ⟨rfl, r_y75⟩ := h74
    rintro _ ⟨p76, rfl, f77⟩
    rintro _ rfl
    rintro _ rfl
    have p78 : Step (ks [] O) w8 (ks [] O) w61 := hst65.trans p66
    replace f72 := f72.step p66; replace f77 := f77.step p66; replace f_a := f_a.step p78; replace f_b := f_b.step p78; replace ch13 := ch13.trans p78; clear p78 hs9
    refine Rg_op rfl (op_neq rfl rfl ?_)
    refine Rg_nil ?_
    refine Wp_cond rfl (fun hc79 => ?_) (fun hc79 => ?_)
    ·
     replace hm := bif_t hm hc79
     refine Wp_seq ?_
     clear f_a f_b f72 f77
     refine Wp_region ?_
     refine Rg_op rfl (op_assign (v := (Value.bool false)) rfl ?_)
     refine Rg_nil ?_
     refine Wp_ret ?_
     have hz := step_all hs67
     refine ⟨_, (show Closes [] _ _ from rfl), [(Value.bool false)], ⟨rfl, trivial⟩, hs67.ext, ?_⟩
     exact Vr.eq (a := vB) (x := false) rfl (Option.some.inj hm)
    ·
     replace hm := bif_f hm hc79
     refine Wp_skip ?_
     clear f72 f77
     refine Wp_region ?_
     refine Rg_op rfl (op_move (v := (Value.int .i64 i_1)) rfl ?_)
     refine Rg_op rfl (op_addw rfl rfl ?_)
     refine Rg_op rfl (op_assign (v := (Value.int .i64 (IntKind.wrap .i64 (i_1 + 1)))) rfl ?_)
     refine Rg_nil ?_
     exact hK6 _ _ ⟨(IntKind.wrap .i64 (i_1 + 1)), _, rfl, ⟨(by repeat (first | with_reducible exact Out.refl _ _ | refine Out.upd ?_ rfl | refine Out.updL ?_ rfl | refine Out.mix' ?_ rfl | exact Out.refl _ _)), rfl, rfl, trivial⟩, ch13, hs67, (inK_wrap .i64 _), jnE1 hsf5 hm⟩
   ·
    replace hm := bif_f hm hc14
    refine Wp_exit ?_
    refine Wp_seq ?_
    clear f_a f_b
    refine Wp_region ?_
    refine Rg_op rfl (op_assign (v := (Value.bool true)) rfl ?_)
    refine Rg_nil ?_
    refine Wp_ret ?_
    have hz := step_all hs9
    refine ⟨_, (show Closes [] _ _ from rfl), [(Value.bool true)], ⟨rfl, trivial⟩, hs9.ext, ?_⟩
    exact Vr.eq (a := vB) (x := true) rfl (Option.some.inj hm)

end Go.Fx



set_option linter.unusedVariables false
set_option linter.unusedSimpArgs false
set_option maxRecDepth 100000
set_option maxHeartbeats 0
namespace Go.Fx
open Go Go.RowKit Go.Proofs
def m22_configs_Path_B1 (distances_1 : (List Int)) (k129 : Int → Option ((List Int) × Bool × Int)) (sf147 : Int → Option ((List Int) × Bool × Int)) (xi138 : Int) (v_4 : Int) : Option ((List Int) × Bool × Int) :=
 ck ((0 : Int) ≤ xi138 ∧ xi138 < (distances_1.length : Int)) <|
 ck ((0 : Int) ≤ v_4 ∧ v_4 < (distances_1.length : Int)) <|
 bif (decide ((distances_1.getD xi138.toNat default) = (IntKind.wrap .i64 ((distances_1.getD v_4.toNat default) - 1)))) then
  k129 xi138
 else
  sf147 v_4

def m22_configs_Path_B0 (to : Int) (divisions_1 : (List (List (Int × Bool))) × Bool) (distances_1 : (List Int)) (sf84 : (List Int) → Int → Option ((List Int) × Bool × Int)) (l_1 : List Int) (v_2 : Int) : Option ((List Int) × Bool × Int) :=
 bif (decide (v_2 ≠ to)) then
  jn (fun (l_2 : List Int) (v_3 : Int) =>
   sf84 l_2 v_3)
  (fun k100 =>
   (m38_configs_next divisions_1.1 v_2).bind fun next_1 =>
   jn (fun (v_4 : Int) =>
    ck ((l_1.length + [v_4].length) * 8 ≤ 140737488355328) <|
    k100 (l_1 ++ [v_4]) v_4)
   (fun k127 =>
    jn (fun (v_4 : Int) =>
     ck ((l_1.length + [v_4].length) * 8 ≤ 140737488355328) <|
     k100 (l_1 ++ [v_4]) v_4)
    (fun k129 =>
     rng1 (m22_configs_Path_B1 distances_1 k129) k127 next_1 v_2)))
 else
  some (l_1, true, 0)

def m22_configs_Path (a : XAirspace) (from_ : Int) (to : Int) : Option ((List Int) × Bool × Int) :=
 (m31_configs_divisions a).bind fun divisions_1 =>
 jn (fun (v_1 : Bool) =>
  bif v_1 then
   some (([] : List Int), false, 100)
  else
   (m34_configs_distances divisions_1.1 to).bind fun distances_1 =>
   ck ((0 : Int) ≤ from_ ∧ from_ < (distances_1.length : Int)) <|
   bif (decide ((distances_1.getD from_.toNat default) < 0)) then
    some (([] : List Int), false, 0)
   else
    loop2 (m22_configs_Path_B0 to divisions_1 distances_1) (1000000) [from_] from_)
 (fun k21 =>
  bif (!divisions_1.2) then
   k21 true
  else
   bif (decide (from_ < 0)) then
    k21 true
   else
    bif (decide ((divisions_1.1.length : Int) ≤ from_)) then
     k21 true
    else
     bif (decide (to < 0)) then
      k21 true
     else
      k21 (decide ((divisions_1.1.length : Int) ≤ to)))

theorem c22_configs_Path {w : World} {O : List Nat} {a : XAirspace} {from_ : Int} {to : Int} {a_a_volumes : Option Addr} {c_a_volumes : Nat} {a_a_sectors : Option Addr} {c_a_sectors : Nat} {a_a_configs : Option Addr} {c_a_configs : Nat} {a_a_segments : Option Addr} {c_a_segments : Nat} {a_a_routes : Option Addr} {c_a_routes : Nat} {a_a_airports : Option Addr} {c_a_airports : Nat} {a_a_classes : Option Addr} {c_a_classes : Nat} {a_a_rules : Option Addr} {c_a_rules : Nat} (hO : ∀ k ∈ O, k < w.heap.size) (f_a_volumes : SlR rXVolume w O a_a_volumes c_a_volumes a.volumes) (f_a_sectors : SlR rXSector w O a_a_sectors c_a_sectors a.sectors) (f_a_configs : SlR rXConfig w O a_a_configs c_a_configs a.configs) (f_a_segments : SlR rXSegment w O a_a_segments c_a_segments a.segments) (f_a_routes : SlR rXRoute w O a_a_routes c_a_routes a.routes) (f_a_airports : SlR rXAirport w O a_a_airports c_a_airports a.airports) (f_a_classes : SlR rXClass w O a_a_classes c_a_classes a.classes) (f_a_rules : SlR rXRule w O a_a_rules c_a_rules a.rules) (r_from_ : InK .i64 from_) (r_to : InK .i64 to) {x : (List Int) × Bool × Int} (hm : m22_configs_Path a from_ to = some x) :
  Ok Try.prog 22 [(Value.agg [(Value.slice a_a_volumes a.volumes.length c_a_volumes), (Value.slice a_a_sectors a.sectors.length c_a_sectors), (Value.slice a_a_configs a.configs.length c_a_configs), (Value.slice a_a_segments a.segments.length c_a_segments), (Value.slice a_a_routes a.routes.length c_a_routes), (Value.slice a_a_airports a.airports.length c_a_airports), (Value.slice a_a_classes a.classes.length c_a_classes), (Value.slice a_a_rules a.rules.length c_a_rules)].toArray), (Value.int .i64 from_), (Value.int .i64 to)] w O (vT3 (vC (rSl (rInt .i64))) vB (vI .i64)) x := by
 unfold m22_configs_Path at hm
 refine Fn_of_Wp (n := 75) (xs := [.tmp 6, .tmp 7, .tmp 8]) Try.func22 rfl Try.ntmps22 Try.results22 rfl ?_
 have hs := St.start hO
 refine Wp_seq ?_
 refine Wp_region ?_
 refine Rg_op rfl (op_box (cs := [(Value.slice a_a_volumes a.volumes.length c_a_volumes), (Value.slice a_a_sectors a.sectors.length c_a_sectors), (Value.slice a_a_configs a.configs.length c_a_configs), (Value.slice a_a_segments a.segments.length c_a_segments), (Value.slice a_a_routes a.routes.length c_a_routes), (Value.slice a_a_airports a.airports.length c_a_airports), (Value.slice a_a_classes a.classes.length c_a_classes), (Value.slice a_a_rules a.rules.length c_a_rules)]) hs rfl rfl ?_)
 intro b1 w2 _ p3 hs4
 replace f_a_volumes := f_a_volumes.step p3; replace f_a_sectors := f_a_sectors.step p3; replace f_a_configs := f_a_configs.step p3; replace f_a_segments := f_a_segments.step p3; replace f_a_routes := f_a_routes.step p3; replace f_a_airports := f_a_airports.step p3; replace f_a_classes := f_a_classes.step p3; replace f_a_rules := f_a_rules.step p3; clear p3
 refine Rg_op rfl (op_assign (v := (Value.slice none 0 0)) rfl ?_)
 refine Rg_op rfl (op_assign (v := (Value.bool false)) rfl ?_)
 refine Rg_op rfl (op_assign (v := (Value.int .i64 0)) rfl ?_)
 refine Rg_nil ?_
 refine Wp_seq ?_
 refine Wp_region ?_
 refine Rg_op rfl (op_loadA (cs := [(Value.slice a_a_volumes a.volumes.length c_a_volumes), (Value.slice a_a_sectors a.sectors.length c_a_sectors), (Value.slice a_a_configs a.configs.length c_a_configs), (Value.slice a_a_segments a.segments.length c_a_segments), (Value.slice a_a_routes a.routes.length c_a_routes), (Value.slice a_a_airports a.airports.length c_a_airports), (Value.slice a_a_classes a.classes.length c_a_classes), (Value.slice a_a_rules a.rules.length c_a_rules)]) (vs := [(Value.slice a_a_volumes a.volumes.length c_a_volumes), (Value.slice a_a_sectors a.sectors.length c_a_sectors), (Value.slice a_a_configs a.configs.length c_a_configs), (Value.slice a_a_segments a.segments.length c_a_segments), (Value.slice a_a_routes a.routes.length c_a_routes), (Value.slice a_a_airports a.airports.length c_a_airports), (Value.slice a_a_classes a.classes.length c_a_classes), (Value.slice a_a_rules a.rules.length c_a_rules)]) (i := 0) ty31 hs4 rfl rfl rfl rfl ?_)
 replace hm := bd hm; obtain ⟨divisions_1, hv6, hm⟩ := hm
 refine Rg_op rfl (op_call Try.call31 (c31_configs_divisions (a := a) hs4.ltw f_a_volumes f_a_sectors f_a_configs f_a_segments f_a_routes f_a_airports f_a_classes f_a_rules hv6) rfl ?_)
 rintro v7 w8 ⟨hx9, h10⟩
 have hs11 := hs4.call hx9
 have p12 := Step.ext (O := ks [(some b1, Obj.cells [(Value.slice a_a_volumes a.volumes.length c_a_volumes), (Value.slice a_a_sectors a.sectors.length c_a_sectors), (Value.slice a_a_configs a.configs.length c_a_configs), (Value.slice a_a_segments a.segments.length c_a_segments), (Value.slice a_a_routes a.routes.length c_a_routes), (Value.slice a_a_airports a.airports.length c_a_airports), (Value.slice a_a_classes a.classes.length c_a_classes), (Value.slice a_a_rules a.rules.length c_a_rules)].toArray 31)] O) hx9
 clear hx9
 replace f_a_volumes := f_a_volumes.step p12; replace f_a_sectors := f_a_sectors.step p12; replace f_a_configs := f_a_configs.step p12; replace f_a_segments := f_a_segments.step p12; replace f_a_routes := f_a_routes.step p12; replace f_a_airports := f_a_airports.step p12; replace f_a_classes := f_a_classes.step p12; replace f_a_rules := f_a_rules.step p12; clear p12 hs4
 obtain ⟨v13, v14, rfl, h15, h16⟩ := h10
 obtain ⟨a_y17, c_y17, rfl, f_y17⟩ := un_sl h15
 obtain rfl := h16
 refine Rg_op rfl (op_move (v := (Value.tuple [(Value.slice a_y17 divisions_1.1.length c_y17), (Value.bool divisions_1.2)].toArray)) rfl ?_)
 refine Rg_op rfl (op_extract (v := (Value.slice a_y17 divisions_1.1.length c_y17)) rfl rfl ?_)
 refine Rg_op rfl (op_extract (v := (Value.bool divisions_1.2)) rfl rfl ?_)
 refine Rg_op rfl (op_assign (v := (Value.slice a_y17 divisions_1.1.length c_y17)) rfl ?_)
 refine Rg_op rfl (op_assign (v := (Value.bool divisions_1.2)) rfl ?_)
 refine Rg_nil ?_
 refine Wp_seq ?_
 refine Wp_reset [] [(1, (Value.int .i64 from_)), (2, (Value.int .i64 to)), (7, (Value.bool divisions_1.2)), (8, (Value.int .i64 0)), (9, (Value.slice a_y17 divisions_1.1.length c_y17))] rfl ⟨rfl, rfl, rfl, rfl, rfl, trivial⟩ fun ξ19 => ?_
 replace hm := jn_elim hm; obtain ⟨k21, hk22, hm⟩ := hm
 refine Wp_seqJ [18, 19, 20, 21, 22, 23, 24, 25, 26, 27, 28, 29, 30, 31, 32, 33, 34, 35, 36, 37, 38, 39] (fun fr w' => ∃ (v_1 : Bool) (Ebs : Ents), Ebs = [(some b1, Obj.cells [(Value.slice a_a_volumes a.volumes.length c_a_volumes), (Value.slice a_a_sectors a.sectors.length c_a_sectors), (Value.slice a_a_configs a.configs.length c_a_configs), (Value.slice a_a_segments a.segments.length c_a_segments), (Value.slice a_a_routes a.routes.length c_a_routes), (Value.slice a_a_airports a.airports.length c_a_airports), (Value.slice a_a_classes a.classes.length c_a_classes), (Value.slice a_a_rules a.rules.length c_a_rules)].toArray 31)] ∧ fr [] [(39, (Value.bool v_1))] ∧ Step (ks [(some b1, Obj.cells [(Value.slice a_a_volumes a.volumes.length c_a_volumes), (Value.slice a_a_sectors a.sectors.length c_a_sectors), (Value.slice a_a_configs a.configs.length c_a_configs), (Value.slice a_a_segments a.segments.length c_a_segments), (Value.slice a_a_routes a.routes.length c_a_routes), (Value.slice a_a_airports a.airports.length c_a_airports), (Value.slice a_a_classes a.classes.length c_a_classes), (Value.slice a_a_rules a.rules.length c_a_rules)].toArray 31)] O) w8 (ks Ebs O) w' ∧ St ⟨w, [], []⟩ O w' Ebs ∧ k21 v_1 = some x) ?_ ?_
 ·
  rintro ρ28 w24 ⟨v_1, Ebs, hEbs, hfr27, hst26, hs25, hm⟩
  replace hm := jnE1 hk22 hm
  subst hEbs; rw [hfr27.eq]; clear hfr27
  replace f_a_volumes := f_a_volumes.step hst26; replace f_a_sectors := f_a_sectors.step hst26; replace f_a_configs := f_a_configs.step hst26; replace f_a_segments := f_a_segments.step hst26; replace f_a_routes := f_a_routes.step hst26; replace f_a_airports := f_a_airports.step hst26; replace f_a_classes := f_a_classes.step hst26; replace f_a_rules := f_a_rules.step hst26; replace f_y17 := f_y17.step hst26; clear hst26 hs11
  refine Wp_cond rfl (fun hc29 => ?_) (fun hc29 => ?_)
  ·
   replace hm := bif_t hm hc29
   refine Wp_seq ?_
   obtain ⟨hs30, p31⟩ := hs25.sub (bs' := []) (.cons _ List.Sublist.slnil)
   clear f_a_volumes f_a_sectors f_a_configs f_a_segments f_a_routes f_a_airports f_a_classes f_a_rules f_y17
   clear p31 hs25
   refine Wp_region ?_
   refine Rg_op rfl (op_assign (v := (Value.slice none 0 0)) rfl ?_)
   refine Rg_op rfl (op_assign (v := (Value.bool false)) rfl ?_)
   refine Rg_op rfl (op_assign (v := (Value.int .i64 100)) rfl ?_)
   refine Rg_nil ?_
   refine Wp_ret ?_
   have hz := step_all hs30
   refine ⟨_, (show Closes [] _ _ from rfl), [(Value.slice none 0 0), (Value.bool false), (Value.int .i64 100)], ⟨rfl, rfl, rfl, trivial⟩, hs30.ext, ?_⟩
   exact Vr.eq (a := (vT3 (vC (rSl (rInt .i64))) vB (vI .i64))) (x := (([] : List Int), false, 100)) (mkT3 (mkC (mk_sl SlR.nil_)) rfl ⟨rfl, (show InK .i64 100 from by decide)⟩) (Option.some.inj hm)
  ·
   replace hm := bif_f hm hc29
   refine Wp_skip ?_
   refine Wp_seq ?_
   obtain ⟨hs32, p33⟩ := hs25.sub (bs' := []) (.cons _ List.Sublist.slnil)
   clear f_a_volumes f_a_sectors f_a_configs f_a_segments f_a_routes f_a_airports f_a_classes f_a_rules
   replace f_y17 := f_y17.step p33; clear p33 hs25
   refine Wp_region ?_
   refine Rg_op rfl (op_move (v := (Value.slice a_y17 divisions_1.1.length c_y17)) rfl ?_)
   refine Rg_op rfl (op_move (v := (Value.int .i64 to)) rfl ?_)
   replace hm := bd hm; obtain ⟨distances_1, hv34, hm⟩ := hm
   refine Rg_op rfl (op_call Try.call34 (g34_configs_distances (l := divisions_1.1) (to := to) hs32.ltw f_y17 r_to hv34) rfl ?_)
   rintro _ w36 ⟨hx37, a40, c41, k42, o43, rfl, hk44, f45⟩
   obtain ⟨hs39, p46⟩ := hs32.callG (o := o43) hx37 hk44
   rw [← ks_cons (o := o43)] at f45
   replace f_y17 := f_y17.step p46; clear p46 hs32
   refine Rg_op rfl (op_alloc ty39 hs39 ?_)
   intro b48 w49 _ p50 hs51
   replace f_y17 := f_y17.step p50; replace f45 := f45.step p50; clear p50 hs39
   refine Rg_op_ (op_store (cs := [(Value.slice none 0 0)]) (vs := [(Value.slice a40 distances_1.length c41)]) (cs' := [(Value.slice a40 distances_1.length c41)]) (bs' := [(some b48, Obj.cells [(Value.slice a40 distances_1.length c41)].toArray 39), (k42, o43)]) (i := 0) ty39 hs51 rfl rfl rfl rfl rfl (le_lit rfl) rfl rfl rfl ?_)
   intro w53 p54 hs55
   replace f_y17 := f_y17.step p54; replace f45 := f45.step p54; clear p54 hs51
   refine Rg_nil ?_
   refine Wp_seq ?_
   refine Wp_seq ?_
   refine Wp_region ?_
   refine Rg_op rfl (op_load (cs := [(Value.slice a40 distances_1.length c41)]) (i := 0) ty39 hs55 rfl rfl rfl ?_)
   refine Rg_op rfl (op_move (v := (Value.int .i64 from_)) rfl ?_)
   replace hm := ck_some hm; obtain ⟨hc56, hm⟩ := hm
   refine Rg_op rfl (op_indexAddrG ty39 ty3 rfl rfl f45 hc56 ?_)
   rintro b57 rfl rfl
   refine Rg_op rfl (op_loadG (i := 1) ty3 rfl hs55 rfl rfl f45 hc56 ?_)
   intro v58 h59
   obtain ⟨rfl, r_y60⟩ := un_int h59
   refine Rg_op rfl (op_lss rfl rfl ?_)
   refine Rg_nil ?_
   refine Wp_cond rfl (fun hc61 => ?_) (fun hc61 => ?_)
   ·
    replace hm := bif_t hm hc61
    refine Wp_seq ?_
    obtain ⟨hs62, p63⟩ := hs55.sub (bs' := []) (.cons _ (.cons _ List.Sublist.slnil))
    clear f_y17 f45
    clear p63 hs55
    refine Wp_region ?_
    refine Rg_op rfl (op_assign (v := (Value.slice none 0 0)) rfl ?_)
    refine Rg_op rfl (op_assign (v := (Value.bool false)) rfl ?_)
    refine Rg_op rfl (op_assign (v := (Value.int .i64 0)) rfl ?_)
    refine Rg_nil ?_
    refine Wp_ret ?_
    have hz := step_all hs62
    refine ⟨_, (show Closes [] _ _ from rfl), [(Value.slice none 0 0), (Value.bool false), (Value.int .i64 0)], ⟨rfl, rfl, rfl, trivial⟩, hs62.ext, ?_⟩
    exact Vr.eq (a := (vT3 (vC (rSl (rInt .i64))) vB (vI .i64))) (x := (([] : List Int), false, 0)) (mkT3 (mkC (mk_sl SlR.nil_)) rfl ⟨rfl, (show InK .i64 0 from by decide)⟩) (Option.some.inj hm)
   ·
    replace hm := bif_f hm hc61
    refine Wp_skip ?_
    refine Wp_seq ?_
    refine Wp_region ?_
    refine Rg_op rfl (op_move (v := (Value.int .i64 from_)) rfl ?_)
    refine Rg_op rfl (op_buildSlice (cs := [(Value.int .i64 from_)]) (parts := [(0, .tmp 48)]) ty39 ty3 hs55 (by decide) rfl ?_)
    intro b64 w65 hx68 p66 hs67
    replace f_y17 := f_y17.step p66; replace f45 := f45.step p66; clear p66 hs55
    refine Rg_op rfl (op_assign (v := (Value.slice (some ⟨b64, 0, none⟩) 1 1)) rfl ?_)
    refine Rg_nil ?_
    refine Wp_seq ?_
    refine Wp_seq ?_
    refine Wp_region ?_
    refine Rg_op rfl (op_move (v := (Value.int .i64 from_)) rfl ?_)
    refine Rg_op rfl (op_alloc ty3 hs67 ?_)
    intro b70 w71 _ p72 hs73
    replace f_y17 := f_y17.step p72; replace f45 := f45.step p72; clear p72 hs67
    refine Rg_op_ (op_store (cs := [(Value.int .i64 0)]) (vs := [(Value.int .i64 from_)]) (cs' := [(Value.int .i64 from_)]) (bs' := [(some b70, Obj.cells [(Value.int .i64 from_)].toArray 3), (some b64, Obj.cells [(Value.int .i64 from_)].toArray 3), (some b48, Obj.cells [(Value.slice (some ⟨b57, 0, none⟩) distances_1.length c41)].toArray 39), (some b57, o43)]) (i := 0) ty3 hs73 rfl rfl rfl rfl rfl (le_lit rfl) rfl rfl rfl ?_)
    intro w75 p76 hs77
    replace f_y17 := f_y17.step p76; replace f45 := f45.step p76; clear p76 hs73
    refine Rg_nil ?_
    refine Wp_block ?_
    refine Wp_reset [] [(2, (Value.int .i64 to)), (6, (Value.slice (some ⟨b64, 0, none⟩) 1 1)), (7, (Value.bool divisions_1.2)), (8, (Value.int .i64 0)), (9, (Value.slice a_y17 divisions_1.1.length c_y17)), (10, (Value.pointer (some ⟨b48, 0, none⟩))), (11, (Value.pointer (some ⟨b70, 0, none⟩)))] rfl ⟨rfl, rfl, rfl, rfl, rfl, rfl, rfl, trivial⟩ fun ξ83 => ?_
    have f88 := Gs.of_cells (p := (rInt .i64)) (e := 3) (bl := b64) (c := 1) (w := w75) (O := ks [(some b70, Obj.cells [(Value.int .i64 from_)].toArray 3), (some b64, Obj.cells [(Value.int .i64 from_)].toArray 3), (some b48, Obj.cells [(Value.slice (some ⟨b57, 0, none⟩) distances_1.length c41)].toArray 39), (some b57, o43)] O) (show Els (rInt .i64) _ _ [(Value.int .i64 from_)] [from_] from ⟨_, _, rfl, (mk_int r_from_), Els.nil⟩) rfl (le_lit rfl)
    refine Wp_loopM [6, 11, 51, 52, 53, 54, 55, 56, 69, 70, 71, 72, 73] (fun m fr w' => ∃ (l_1 : List Int) (v_2 : Int) (a_g78 : Option Addr) (c_g78 : Nat) (k_g78 : Option Nat) (o_g78 : Obj) (b79 : Nat) (Ds82 : List Nat) (Ebs : Ents), Ebs = [(some b79, Obj.cells [(Value.int .i64 v_2)].toArray 3), (k_g78, o_g78), (some b48, Obj.cells [(Value.slice (some ⟨b57, 0, none⟩) distances_1.length c41)].toArray 39), (some b57, o43)] ∧ fr (Ds82 ++ []) [(6, (Value.slice a_g78 l_1.length c_g78)), (11, (Value.pointer (some ⟨b79, 0, none⟩)))] ∧ Step (ks [(some b70, Obj.cells [(Value.int .i64 from_)].toArray 3), (some b64, Obj.cells [(Value.int .i64 from_)].toArray 3), (some b48, Obj.cells [(Value.slice (some ⟨b57, 0, none⟩) distances_1.length c41)].toArray 39), (some b57, o43)] O) w75 (ks Ebs (Ds82 ++ O)) w' ∧ St ⟨w, [], (Ds82 ++ [])⟩ (Ds82 ++ O) w' Ebs ∧ Gs (rInt .i64) 3 w' (ks Ebs (Ds82 ++ O)) a_g78 c_g78 l_1 k_g78 o_g78 ∧ InK .i64 v_2 ∧ loop2 (m22_configs_Path_B0 to divisions_1 distances_1) m l_1 v_2 = some x) (1000000) ⟨[from_], from_, (some ⟨b64, 0, none⟩), 1, (some b64), (Obj.cells [(Value.int .i64 from_)].toArray 3), b70, [], _, rfl, ⟨Out.refl _ _, rfl, rfl, rfl, trivial⟩, Step.refl _ _, hs77, f88, r_from_, hm⟩ ?_ ?_
    · rintro _ _ ⟨_, _, _, _, _, _, _, _, _, _, _, _, _, _, _, hm⟩; exact loop2_z hm
    ·
     rintro m87 K86 hK86 ρ93 w89 ⟨l_1, v_2, a_g78, c_g78, k_g78, o_g78, b79, Ds82, Ebs, hEbs, hfr92, hst91, hs90, f_g78, r_y81, hm⟩
     obtain ⟨sf84, hsf85, hm⟩ := loop2_s hm; unfold m22_configs_Path_B0 at hm
     subst hEbs; rw [hfr92.eq]; clear hfr92
     replace f_y17 := f_y17.step hst91; replace f45 := f45.step hst91; replace f88 := f88.step hst91
     have ch94 := hst91
     refine Wp_seq ?_
     refine Wp_seq ?_
     clear f88
     refine Wp_region ?_
     refine Rg_op rfl (op_load (cs := [(Value.int .i64 v_2)]) (i := 0) ty3 hs90 rfl rfl rfl ?_)
     refine Rg_op rfl (op_move (v := (Value.int .i64 to)) rfl ?_)
     refine Rg_op rfl (op_neq rfl rfl ?_)
     refine Rg_nil ?_
     refine Wp_cond rfl (fun hc95 => ?_) (fun hc95 => ?_)
     ·
      replace hm := bif_t hm hc95
      refine Wp_skip ?_
      refine Wp_reset2 [6, 11, 51, 52, 53, 54, 55, 56, 69, 70, 71, 72, 73] (Ds82 ++ []) (updL ⟨ξ83, []⟩ [(2, (Value.int .i64 to)), (6, (Value.slice (some ⟨b64, 0, none⟩) 1 1)), (7, (Value.bool divisions_1.2)), (8, (Value.int .i64 0)), (9, (Value.slice a_y17 divisions_1.1.length c_y17)), (10, (Value.pointer (some ⟨b48, 0, none⟩))), (11, (Value.pointer (some ⟨b70, 0, none⟩)))]) [(6, (Value.slice a_g78 l_1.length c_g78)), (11, (Value.pointer (some ⟨b79, 0, none⟩)))] (by repeat (first | with_reducible exact Out.refl _ _ | refine Out.upd ?_ rfl | refine Out.updL ?_ rfl | refine Out.mix' ?_ rfl | exact Out.refl _ _)) rfl ⟨rfl, rfl, trivial⟩ fun ξ96 => ?_
      replace hm := jn_elim hm; obtain ⟨k100, hk101, hm⟩ := hm
      refine Wp_seqJ [6, 54, 55, 56, 69, 70, 71, 72] (fun fr w' => ∃ (l_2 : List Int) (v_3 : Int) (a_g97 : Option Addr) (c_g97 : Nat) (k_g97 : Option Nat) (o_g97 : Obj) (Ds99 : List Nat) (Ebs : Ents), Ebs = [(some b79, Obj.cells [(Value.int .i64 v_3)].toArray 3), (k_g97, o_g97), (some b48, Obj.cells [(Value.slice (some ⟨b57, 0, none⟩) distances_1.length c41)].toArray 39), (some b57, o43)] ∧ fr (Ds99 ++ []) [(6, (Value.slice a_g97 l_2.length c_g97))] ∧ Step (ks [(some b79, Obj.cells [(Value.int .i64 v_2)].toArray 3), (k_g78, o_g78), (some b48, Obj.cells [(Value.slice (some ⟨b57, 0, none⟩) distances_1.length c41)].toArray 39), (some b57, o43)] (Ds82 ++ O)) w89 (ks Ebs (Ds99 ++ O)) w' ∧ St ⟨w, [], (Ds99 ++ [])⟩ (Ds99 ++ O) w' Ebs ∧ Gs (rInt .i64) 3 w' (ks Ebs (Ds99 ++ O)) a_g97 c_g97 l_2 k_g97 o_g97 ∧ InK .i64 v_3 ∧ k100 l_2 v_3 = some x) ?_ ?_
      ·
       rintro ρ107 w103 ⟨l_2, v_3, a_g97, c_g97, k_g97, o_g97, Ds99, Ebs, hEbs, hfr106, hst105, hs104, f_g97, r_y98, hm⟩
       replace hm := jnE2 hk101 hm
       subst hEbs; rw [hfr106.eq]; clear hfr106
       replace f_y17 := f_y17.step hst105; replace f45 := f45.step hst105; replace f_g78 := f_g78.step hst105; replace ch94 := ch94.trans hst105; clear hst105 hs90
       refine Wp_seq ?_
       clear f_g78
       refine Wp_region ?_
       refine Rg_op rfl (op_load (cs := [(Value.int .i64 v_3)]) (i := 0) ty3 hs104 rfl rfl rfl ?_)
       refine Rg_nil ?_
       refine Wp_region ?_
       refine Rg_op rfl (op_alloc ty3 hs104 ?_)
       intro b108 w109 _ p110 hs111
       replace f_y17 := f_y17.step p110; replace f45 := f45.step p110; replace f_g97 := f_g97.step p110; replace ch94 := ch94.trans p110; clear p110 hs104
       refine Rg_op_ (op_store (cs := [(Value.int .i64 0)]) (vs := [(Value.int .i64 v_3)]) (cs' := [(Value.int .i64 v_3)]) (bs' := [(some b108, Obj.cells [(Value.int .i64 v_3)].toArray 3), (some b79, Obj.cells [(Value.int .i64 v_3)].toArray 3), (k_g97, o_g97), (some b48, Obj.cells [(Value.slice (some ⟨b57, 0, none⟩) distances_1.length c41)].toArray 39), (some b57, o43)]) (i := 0) ty3 hs111 rfl rfl rfl rfl rfl (le_lit rfl) rfl rfl rfl ?_)
       intro w113 p114 hs115
       replace f_y17 := f_y17.step p114; replace f45 := f45.step p114; replace f_g97 := f_g97.step p114; replace ch94 := ch94.trans p114; clear p114 hs111
       refine Rg_nil ?_
       have hs116 := hs115.drop 1
       replace f_y17 := f_y17.step (hs115.dropS 1)
       replace f45 := f45.step (hs115.dropS 1)
       replace f_g97 := f_g97.step (hs115.dropS 1)
       replace ch94 := ch94.trans (hs115.dropS 1); clear hs115
       exact hK86 _ _ ⟨l_2, v_3, a_g97, c_g97, k_g97, o_g97, b108, Ds99, _, rfl, ⟨(by repeat (first | with_reducible exact Out.refl _ _ | refine Out.upd ?_ rfl | refine Out.updL ?_ rfl | refine Out.mix' ?_ rfl | exact Out.refl _ _)), rfl, rfl, rfl, trivial⟩, ch94, hs116, f_g97, r_y98, jnE2 hsf85 hm⟩
      ·
       intro K102 hK102
       have ch117 := Step.refl (ks [(some b79, Obj.cells [(Value.int .i64 v_2)].toArray 3), (k_g78, o_g78), (some b48, Obj.cells [(Value.slice (some ⟨b57, 0, none⟩) distances_1.length c41)].toArray 39), (some b57, o43)] (Ds82 ++ O)) w89
       refine Wp_block ?_
       refine Wp_seq ?_
       refine Wp_seq ?_
       refine Wp_region ?_
       refine Rg_op rfl (op_move (v := (Value.slice a_y17 divisions_1.1.length c_y17)) rfl ?_)
       refine Rg_op rfl (op_load (cs := [(Value.int .i64 v_2)]) (i := 0) ty3 hs90 rfl rfl rfl ?_)
       replace hm := bd hm; obtain ⟨next_1, hv118, hm⟩ := hm
       refine Rg_op rfl (op_call Try.call38 (c38_configs_next (l := divisions_1.1) (from_ := v_2) hs90.ltw f_y17 r_y81 hv118) rfl ?_)
       rintro v119 w120 ⟨hx121, h122⟩
       have hs123 := hs90.call hx121
       have p124 := Step.ext (O := ks [(some b79, Obj.cells [(Value.int .i64 v_2)].toArray 3), (k_g78, o_g78), (some b48, Obj.cells [(Value.slice (some ⟨b57, 0, none⟩) distances_1.length c41)].toArray 39), (some b57, o43)] (Ds82 ++ O)) hx121
       clear hx121
       replace f_y17 := f_y17.step p124; replace f45 := f45.step p124; replace f_g78 := f_g78.step p124; replace ch94 := ch94.trans p124; replace ch117 := ch117.trans p124; clear p124 hs90
       have F_y125 : ItR Try.prog (enc1 (vI .i64)) _ _ v119 next_1 := h122
       refine Rg_nil ?_
       refine Wp_block ?_
       have hit135 := F_y125; obtain ⟨fk131, cp132, hvq133, hcl134, hit135⟩ := hit135
       replace hm := jn_elim hm; obtain ⟨k127, hk128, hm⟩ := hm
       replace hm := jn_elim hm; obtain ⟨k129, hk130, hm⟩ := hm
       refine Wp_rangeFunc (σ := Int) (ps := [57]) hs123 (rfl.trans hvq133) hcl134 hit135 rfl enc1_len enc1_step (fun s => match s with | v_4 => [(some b79, Obj.cells [(Value.int .i64 v_4)].toArray 3), (k_g78, o_g78), (some b48, Obj.cells [(Value.slice (some ⟨b57, 0, none⟩) distances_1.length c41)].toArray 39), (some b57, o43)]) (fun s w O => match s with | v_4 => InK .i64 v_4) (fun v_4 w O w' O' p h => by have h : InK .i64 v_4 := h; have r_y126 := h; exact r_y126) (fun s l => match s with | v_4 => rng1 (m22_configs_Path_B1 distances_1 k129) k127 l v_4 = some x) [some 2] (fun e s => match e, s with | some 2, v_4 => k129 v_4 = some x | _, _ => False) v_2 rfl r_y81 hm ?_ ?_ ?_
       ·
        rintro l136 E137 v_4 xi138 rest139 w140 vs141 z142 hz143 hs144 hst145 r_y126 hm hx146
        replace hs144 : St z142 (E137 ++ (Ds82 ++ O)) w140 [(some b79, Obj.cells [(Value.int .i64 v_4)].toArray 3), (k_g78, o_g78), (some b48, Obj.cells [(Value.slice (some ⟨b57, 0, none⟩) distances_1.length c41)].toArray 39), (some b57, o43)] := hs144
        have ch149 : Step (ks [(some b79, Obj.cells [(Value.int .i64 v_2)].toArray 3), (k_g78, o_g78), (some b48, Obj.cells [(Value.slice (some ⟨b57, 0, none⟩) distances_1.length c41)].toArray 39), (some b57, o43)] (Ds82 ++ O)) w120 (ks [(some b79, Obj.cells [(Value.int .i64 v_4)].toArray 3), (k_g78, o_g78), (some b48, Obj.cells [(Value.slice (some ⟨b57, 0, none⟩) distances_1.length c41)].toArray 39), (some b57, o43)] (E137 ++ (Ds82 ++ O))) w140 := hst145; clear hst145
        replace r_y126 : InK .i64 v_4 := r_y126
        have hm150 := rng1_s (show rng1 _ _ (xi138 :: rest139) v_4 = some _ from hm); clear hm; obtain ⟨sf147, hsf148, hm⟩ := hm150
        unfold m22_configs_Path_B1 at hm
        replace f_y17 := f_y17.step ch149; replace f45 := f45.step ch149; replace f_g78 := f_g78.step ch149; replace F_y125 := F_y125.step ch149
        replace hx146 : (enc1 (vI .i64)) xi138 w140 (ks [(some b79, Obj.cells [(Value.int .i64 v_4)].toArray 3), (k_g78, o_g78), (some b48, Obj.cells [(Value.slice (some ⟨b57, 0, none⟩) distances_1.length c41)].toArray 39), (some b57, o43)] (E137 ++ (Ds82 ++ O))) vs141 := hx146
        obtain ⟨v151, rfl, h152⟩ := hx146
        obtain ⟨rfl, r_y153⟩ := h152
        refine Wp_region ?_
        refine Rg_op rfl (op_assign (v := (Value.int .i64 xi138)) rfl ?_)
        refine Rg_nil ?_
        refine Exists.intro _ (And.intro hs144 ?_)
        intro w154 z155 RQ156 hz157 hs158 p159 hN160 hX161
        replace f_y17 := f_y17.step p159; replace f45 := f45.step p159; replace f_g78 := f_g78.step p159; replace F_y125 := F_y125.step p159; replace ch149 := ch149.trans p159; clear p159 hs144
        refine Wp_block ?_
        refine Wp_seq ?_
        refine Wp_drawR (g0 := []) (m := 9) (fl := []) (TS_inv hs158) (.inr rfl) rfl (by decide +kernel) ?_  -- 12
        refine Dw_eq (Value.slice (some ⟨b57, 0, none⟩) distances_1.length c41) (fun ρ162 w163 g hle hi ht => ?_) ?_
        ·
         obtain ⟨-, hst, -⟩ := hle
         have hsn := (Step.nx hi).1
         refine StepOp_plain (op_load (cs := [(Value.slice (some ⟨b57, 0, none⟩) distances_1.length c41)]) (i := 2) ty39 hsn (ht 10 rfl) rfl rfl ?_)
         exact Goes.same hi rfl
        refine Dw_eq (Value.int .i64 xi138) (fun ρ165 w166 g hle hi ht => ?_) ?_
        ·
         obtain ⟨-, hst, -⟩ := hle
         refine StepOp_plain (op_move (v := (Value.int .i64 xi138)) (ht 12 rfl) ?_)
         exact Goes.same hi rfl
        replace hm := ck_some hm; obtain ⟨hc171, hm⟩ := hm
        refine Dw_eq (Value.pointer (some ⟨b57, xi138.toNat * 1, none⟩)) (fun ρ168 w169 g hle hi ht => ?_) ?_
        ·
         obtain ⟨-, hst, -⟩ := hle
         replace f45 := f45.step hst
         refine StepOp_plain (op_indexAddrG ty39 ty3 (ht 58 rfl) (ht 59 rfl) f45 hc171 ?_)
         rintro _ ⟨⟩ -
         exact Goes.same hi rfl
        refine Dw_op (VD (E137 ++ (Ds82 ++ O)) [(some b79, Obj.cells [(Value.int .i64 v_4)].toArray 3), (k_g78, o_g78), (some b48, Obj.cells [(Value.slice (some ⟨b57, 0, none⟩) distances_1.length c41)].toArray 39), (some b57, o43)] (vI .i64) (distances_1.getD xi138.toNat default)) (VD.stab _ _) (fun ρ173 w174 g hle hi ht => ?_) ?_
        ·
         obtain ⟨-, hst, -⟩ := hle
         replace f45 := f45.step hst
         have hsn := (Step.nx hi).1
         refine StepOp_plain (op_loadG (i := 3) ty3 rfl hsn rfl (ht 60 rfl) f45 hc171 ?_)
         intro v176 h177
         obtain ⟨rfl, r_y178⟩ := un_int h177
         exact Goes.same hi (show Vr.vd (vI .i64) _ _ _ _ from ⟨rfl, r_y178⟩)
        refine Dw_eq (Value.slice (some ⟨b57, 0, none⟩) distances_1.length c41) (fun ρ179 w180 g hle hi ht => ?_) ?_
        ·
         obtain ⟨-, hst, -⟩ := hle
         have hsn := (Step.nx hi).1
         refine StepOp_plain (op_load (cs := [(Value.slice (some ⟨b57, 0, none⟩) distances_1.length c41)]) (i := 2) ty39 hsn (ht 10 rfl) rfl rfl ?_)
         exact Goes.same hi rfl
        refine Dw_eq (Value.int .i64 v_4) (fun ρ182 w183 g hle hi ht => ?_) ?_
        ·
         obtain ⟨-, hst, -⟩ := hle
         have hsn := (Step.nx hi).1
         refine StepOp_plain (op_load (cs := [(Value.int .i64 v_4)]) (i := 0) ty3 hsn (ht 11 rfl) rfl rfl ?_)
         exact Goes.same hi rfl
        replace hm := ck_some hm; obtain ⟨hc188, hm⟩ := hm
        refine Dw_eq (Value.pointer (some ⟨b57, v_4.toNat * 1, none⟩)) (fun ρ185 w186 g hle hi ht => ?_) ?_
        ·
         obtain ⟨-, hst, -⟩ := hle
         replace f45 := f45.step hst
         refine StepOp_plain (op_indexAddrG ty39 ty3 (ht 62 rfl) (ht 63 rfl) f45 hc188 ?_)
         rintro _ ⟨⟩ -
         exact Goes.same hi rfl
        refine Dw_op (VD (E137 ++ (Ds82 ++ O)) [(some b79, Obj.cells [(Value.int .i64 v_4)].toArray 3), (k_g78, o_g78), (some b48, Obj.cells [(Value.slice (some ⟨b57, 0, none⟩) distances_1.length c41)].toArray 39), (some b57, o43)] (vI .i64) (distances_1.getD v_4.toNat default)) (VD.stab _ _) (fun ρ190 w191 g hle hi ht => ?_) ?_
        ·
         obtain ⟨-, hst, -⟩ := hle
         replace f45 := f45.step hst
         have hsn := (Step.nx hi).1
         refine StepOp_plain (op_loadG (i := 3) ty3 rfl hsn rfl (ht 64 rfl) f45 hc188 ?_)
         intro v193 h194
         obtain ⟨rfl, r_y195⟩ := un_int h194
         exact Goes.same hi (show Vr.vd (vI .i64) _ _ _ _ from ⟨rfl, r_y195⟩)
        refine Dw_eq (Value.int .i64 (IntKind.wrap .i64 ((distances_1.getD v_4.toNat default) - 1))) (fun ρ196 w197 g hle hi ht => ?_) ?_
        ·
         obtain ⟨-, hst, -⟩ := hle
         have h199 : Vr.vd (vI .i64) _ _ _ _ := ht 65 rfl
         obtain ⟨q200, r_y201⟩ := h199
         refine StepOp_plain (op_subw q200 rfl ?_)
         exact Goes.same hi rfl
        refine Dw_nil fun w206 g207 hl208 hi209 => ?_
        obtain ⟨-, hst210, -⟩ := hl208
        obtain ⟨hs212, p211⟩ := Step.nx hi209
        rintro _ rfl
        rintro v213 h214
        replace h214 : Vr.vd (vI .i64) _ _ _ _ := h214
        obtain ⟨rfl, r_y215⟩ := h214
        rintro _ rfl
        rintro _ rfl
        rintro _ rfl
        rintro v216 h217
        replace h217 : Vr.vd (vI .i64) _ _ _ _ := h217
        obtain ⟨rfl, r_y218⟩ := h217
        rintro _ rfl
        rintro _ rfl
        rintro _ rfl
        have p219 : Step (ks [(some b79, Obj.cells [(Value.int .i64 v_4)].toArray 3), (k_g78, o_g78), (some b48, Obj.cells [(Value.slice (some ⟨b57, 0, none⟩) distances_1.length c41)].toArray 39), (some b57, o43)] (E137 ++ (Ds82 ++ O))) w154 (ks [(some b79, Obj.cells [(Value.int .i64 v_4)].toArray 3), (k_g78, o_g78), (some b48, Obj.cells [(Value.slice (some ⟨b57, 0, none⟩) distances_1.length c41)].toArray 39), (some b57, o43)] (E137 ++ (Ds82 ++ O))) w206 := hst210.trans p211
        replace f_y17 := f_y17.step p219; replace f45 := f45.step p219; replace f_g78 := f_g78.step p219; replace F_y125 := F_y125.step p219; replace ch149 := ch149.trans p219; clear p219 hs158
        refine Rg_op rfl (op_eql rfl rfl ?_)
        refine Rg_nil ?_
        refine Wp_cond rfl (fun hc220 => ?_) (fun hc220 => ?_)
        ·
         replace hm := bif_t hm hc220
         refine Wp_seq ?_
         clear f_y17 f_g78 F_y125
         refine Wp_region ?_
         refine Rg_op rfl (op_move (v := (Value.int .i64 xi138)) rfl ?_)
         refine Rg_op_ (op_store (cs := [(Value.int .i64 v_4)]) (vs := [(Value.int .i64 xi138)]) (cs' := [(Value.int .i64 xi138)]) (bs' := [(some b79, Obj.cells [(Value.int .i64 xi138)].toArray 3), (k_g78, o_g78), (some b48, Obj.cells [(Value.slice (some ⟨b57, 0, none⟩) distances_1.length c41)].toArray 39), (some b57, o43)]) (i := 0) ty3 hs212 rfl rfl rfl rfl rfl (le_lit rfl) rfl rfl rfl ?_)
         intro w221 p222 hs223
         replace f45 := f45.step p222; replace ch149 := ch149.trans p222; clear p222 hs212
         refine Rg_nil ?_
         refine Wp_exit ?_
         exact hX161 (some 2) xi138 _ _ (by simp) hs223 ch149 r_y153 hm
        ·
         replace hm := bif_f hm hc220
         refine Wp_skip ?_
         exact hN160 v_4 _ _ hs212 ch149 r_y126 (jnE1 hsf148 hm)
       ·
        rintro D224 v_4 w225 hs226 hst227 r_y126 hm
        replace hs226 : St ⟨w, [], (D224 :: (Ds82 ++ []))⟩ (D224 :: (Ds82 ++ O)) w225 [(some b79, Obj.cells [(Value.int .i64 v_4)].toArray 3), (k_g78, o_g78), (some b48, Obj.cells [(Value.slice (some ⟨b57, 0, none⟩) distances_1.length c41)].toArray 39), (some b57, o43)] := hs226
        replace hst227 : Step (ks [(some b79, Obj.cells [(Value.int .i64 v_2)].toArray 3), (k_g78, o_g78), (some b48, Obj.cells [(Value.slice (some ⟨b57, 0, none⟩) distances_1.length c41)].toArray 39), (some b57, o43)] (Ds82 ++ O)) w120 (ks [(some b79, Obj.cells [(Value.int .i64 v_4)].toArray 3), (k_g78, o_g78), (some b48, Obj.cells [(Value.slice (some ⟨b57, 0, none⟩) distances_1.length c41)].toArray 39), (some b57, o43)] (D224 :: (Ds82 ++ O))) w225 := hst227
        replace r_y126 : InK .i64 v_4 := r_y126
        replace hm := rng1_z (show rng1 _ _ [] v_4 = some _ from hm)
        replace hm := jnE1 hk128 (show k127 v_4 = some _ from hm)
        replace f_y17 := f_y17.step hst227; replace f45 := f45.step hst227; replace f_g78 := f_g78.step hst227; replace F_y125 := F_y125.step hst227; replace ch94 := ch94.trans hst227; replace ch117 := ch117.trans hst227; clear hst227 hs123; clear F_y125
        refine Wp_region ?_
        refine Rg_op rfl (op_move (v := (Value.slice a_g78 l_1.length c_g78)) rfl ?_)
        refine Rg_op rfl (op_load (cs := [(Value.int .i64 v_4)]) (i := 0) ty3 hs226 rfl rfl rfl ?_)
        refine Rg_op rfl (op_buildSlice (cs := [(Value.int .i64 v_4)]) (parts := [(0, .tmp 70)]) ty39 ty3 hs226 (by decide) rfl ?_)
        intro b229 w230 hx233 p231 hs232
        replace f_y17 := f_y17.step p231; replace f45 := f45.step p231; replace f_g78 := f_g78.step p231; replace ch94 := ch94.trans p231; replace ch117 := ch117.trans p231; clear p231 hs226
        replace hm := ck_some hm; obtain ⟨hc235, hm⟩ := hm
        refine Rg_op rfl (op_append (q := (rInt .i64)) (i := 2) (xs := l_1) (ys := [v_4]) (news := [(Value.int .i64 v_4)]) ty39 ty3 rfl (by decide) hs232 rfl rfl f_g78 rfl (Src.owned' (len := 1) (hs232.get (i := 0) rfl) rfl) (show Els (rInt .i64) _ _ [(Value.int .i64 v_4)] [v_4] from ⟨_, _, rfl, (mk_int r_y126), Els.nil⟩) hc235 (by have := hc235; simp only [maxLen]; omega) ?_)
        intro a239 c240 k241 o242 w236 p237 hs238 f243
        replace f_y17 := f_y17.step p237; replace f45 := f45.step p237; replace ch94 := ch94.trans p237; replace ch117 := ch117.trans p237; clear p237 hs232
        have hs244 := hs238.drop 0
        replace f_y17 := f_y17.step (hs238.dropS 0)
        replace f45 := f45.step (hs238.dropS 0)
        replace f243 := f243.step (hs238.dropS 0)
        replace ch94 := ch94.trans (hs238.dropS 0)
        replace ch117 := ch117.trans (hs238.dropS 0); clear hs238
        refine Rg_op rfl (op_assign (v := (Value.slice a239 (l_1 ++ [v_4]).length c240)) rfl ?_)
        refine Rg_nil ?_
        exact hK102 _ _ ⟨(l_1 ++ [v_4]), v_4, a239, c240, k241, o242, (D224 :: Ds82), _, rfl, ⟨(by repeat (first | with_reducible exact Out.refl _ _ | refine Out.upd ?_ rfl | refine Out.updL ?_ rfl | refine Out.mix' ?_ rfl | exact Out.refl _ _)), rfl, rfl, trivial⟩, ch117, hs244, f243, r_y126, hm⟩
       ·
        rintro e250 D245 v_4 w246 he249 hs247 hst248 r_y126 hm
        simp only [List.mem_cons, List.not_mem_nil, or_false] at he249
        subst he249
        replace hs247 : St ⟨w, [], (D245 :: (Ds82 ++ []))⟩ (D245 :: (Ds82 ++ O)) w246 [(some b79, Obj.cells [(Value.int .i64 v_4)].toArray 3), (k_g78, o_g78), (some b48, Obj.cells [(Value.slice (some ⟨b57, 0, none⟩) distances_1.length c41)].toArray 39), (some b57, o43)] := hs247
        replace hst248 : Step (ks [(some b79, Obj.cells [(Value.int .i64 v_2)].toArray 3), (k_g78, o_g78), (some b48, Obj.cells [(Value.slice (some ⟨b57, 0, none⟩) distances_1.length c41)].toArray 39), (some b57, o43)] (Ds82 ++ O)) w120 (ks [(some b79, Obj.cells [(Value.int .i64 v_4)].toArray 3), (k_g78, o_g78), (some b48, Obj.cells [(Value.slice (some ⟨b57, 0, none⟩) distances_1.length c41)].toArray 39), (some b57, o43)] (D245 :: (Ds82 ++ O))) w246 := hst248
        replace r_y126 : InK .i64 v_4 := r_y126
        replace hm := jnE1 hk130 (show k129 v_4 = some _ from hm)
        replace f_y17 := f_y17.step hst248; replace f45 := f45.step hst248; replace f_g78 := f_g78.step hst248; replace F_y125 := F_y125.step hst248; replace ch94 := ch94.trans hst248; replace ch117 := ch117.trans hst248; clear hst248 hs123; clear F_y125
        refine Wp_region ?_
        refine Rg_op rfl (op_move (v := (Value.slice a_g78 l_1.length c_g78)) rfl ?_)
        refine Rg_op rfl (op_load (cs := [(Value.int .i64 v_4)]) (i := 0) ty3 hs247 rfl rfl rfl ?_)
        refine Rg_op rfl (op_buildSlice (cs := [(Value.int .i64 v_4)]) (parts := [(0, .tmp 70)]) ty39 ty3 hs247 (by decide) rfl ?_)
        intro b251 w252 hx255 p253 hs254
        replace f_y17 := f_y17.step p253; replace f45 := f45.step p253; replace f_g78 := f_g78.step p253; replace ch94 := ch94.trans p253; replace ch117 := ch117.trans p253; clear p253 hs247
        replace hm := ck_some hm; obtain ⟨hc257, hm⟩ := hm
        refine Rg_op rfl (op_append (q := (rInt .i64)) (i := 2) (xs := l_1) (ys := [v_4]) (news := [(Value.int .i64 v_4)]) ty39 ty3 rfl (by decide) hs254 rfl rfl f_g78 rfl (Src.owned' (len := 1) (hs254.get (i := 0) rfl) rfl) (show Els (rInt .i64) _ _ [(Value.int .i64 v_4)] [v_4] from ⟨_, _, rfl, (mk_int r_y126), Els.nil⟩) hc257 (by have := hc257; simp only [maxLen]; omega) ?_)
        intro a261 c262 k263 o264 w258 p259 hs260 f265
        replace f_y17 := f_y17.step p259; replace f45 := f45.step p259; replace ch94 := ch94.trans p259; replace ch117 := ch117.trans p259; clear p259 hs254
        have hs266 := hs260.drop 0
        replace f_y17 := f_y17.step (hs260.dropS 0)
        replace f45 := f45.step (hs260.dropS 0)
        replace f265 := f265.step (hs260.dropS 0)
        replace ch94 := ch94.trans (hs260.dropS 0)
        replace ch117 := ch117.trans (hs260.dropS 0); clear hs260
        refine Rg_op rfl (op_assign (v := (Value.slice a261 (l_1 ++ [v_4]).length c262)) rfl ?_)
        refine Rg_nil ?_
        exact hK102 _ _ ⟨(l_1 ++ [v_4]), v_4, a261, c262, k263, o264, (D245 :: Ds82), _, rfl, ⟨(by repeat (first | with_reducible exact Out.refl _ _ | refine Out.upd ?_ rfl | refine Out.updL ?_ rfl | refine Out.mix' ?_ rfl | exact Out.refl _ _)), rfl, rfl, trivial⟩, ch117, hs266, f265, r_y126, hm⟩
     ·
      replace hm := bif_f hm hc95
      refine Wp_exit ?_
      refine Wp_seq ?_
      obtain ⟨hs267, p268⟩ := hs90.sub (bs' := [(k_g78, o_g78)]) (.cons _ (.cons_cons _ (.cons _ (.cons _ List.Sublist.slnil))))
      clear f_y17 f45
      replace f_g78 := f_g78.step p268; replace ch94 := ch94.trans p268; clear p268 hs90
      refine Wp_region ?_
      refine Rg_op rfl (op_move (v := (Value.slice a_g78 l_1.length c_g78)) rfl ?_)
      refine Rg_op rfl (op_assign (v := (Value.slice a_g78 l_1.length c_g78)) rfl ?_)
      refine Rg_op rfl (op_assign (v := (Value.bool true)) rfl ?_)
      refine Rg_op rfl (op_assign (v := (Value.int .i64 0)) rfl ?_)
      refine Rg_nil ?_
      refine Wp_ret ?_
      obtain ⟨w269, hcl270, hs271, p272⟩ := St.close hs267
      replace f_g78 := f_g78.step p272; replace ch94 := ch94.trans p272; clear p272 hs267
      obtain ⟨hs274, p275, f273⟩ := Gs.publish (i := 0) hs271 rfl f_g78
      replace ch94 := ch94.trans p275; clear p275 hs271
      have hz := (step_all hs274).trans (Step.sub (O' := O) (fun k hk => by simp [hk]))
      replace f273 := f273.step hz
      refine ⟨_, hcl270, [(Value.slice a_g78 l_1.length c_g78), (Value.bool true), (Value.int .i64 0)], ⟨rfl, rfl, rfl, trivial⟩, hs274.ext, ?_⟩
      exact Vr.eq (a := (vT3 (vC (rSl (rInt .i64))) vB (vI .i64))) (x := (l_1, true, 0)) (mkT3 (mkC (mk_sl f273)) rfl ⟨rfl, (show InK .i64 0 from by decide)⟩) (Option.some.inj hm)
 ·
  intro K23 hK23
  have ch276 := Step.refl (ks [(some b1, Obj.cells [(Value.slice a_a_volumes a.volumes.length c_a_volumes), (Value.slice a_a_sectors a.sectors.length c_a_sectors), (Value.slice a_a_configs a.configs.length c_a_configs), (Value.slice a_a_segments a.segments.length c_a_segments), (Value.slice a_a_routes a.routes.length c_a_routes), (Value.slice a_a_airports a.airports.length c_a_airports), (Value.slice a_a_classes a.classes.length c_a_classes), (Value.slice a_a_rules a.rules.length c_a_rules)].toArray 31)] O) w8
  refine Wp_region ?_
  refine Rg_op rfl (op_move (v := (Value.bool divisions_1.2)) rfl ?_)
  refine Rg_op rfl (op_not rfl ?_)
  refine Rg_op rfl (op_move (v := (Value.bool (!divisions_1.2))) rfl ?_)
  refine Rg_case (fun hg277 => ?_) (fun hg277 => ?_)
  ·
   replace hm := bif_t hm hg277
   iterate 2 refine Rg_opx rfl (asB_ne rfl rfl) rfl ?_
   refine Rg_op rfl (op_pick_t (v := (Value.bool true)) rfl rfl ?_)
   refine Rg_op rfl (op_move (v := (Value.bool true)) rfl ?_)
   iterate 4 refine Rg_opx rfl (asB_ne rfl rfl) rfl ?_
   refine Rg_op rfl (op_pick_t (v := (Value.bool true)) rfl rfl ?_)
   refine Rg_op rfl (op_move (v := (Value.bool true)) rfl ?_)
   iterate 2 refine Rg_opx rfl (asB_ne rfl rfl) rfl ?_
   refine Rg_op rfl (op_pick_t (v := (Value.bool true)) rfl rfl ?_)
   refine Rg_op rfl (op_move (v := (Value.bool true)) rfl ?_)
   iterate 4 refine Rg_opx rfl (asB_ne rfl rfl) rfl ?_
   refine Rg_op rfl (op_pick_t (v := (Value.bool true)) rfl rfl ?_)
   refine Rg_nil ?_
   exact hK23 _ _ ⟨true, _, rfl, ⟨(by repeat (first | with_reducible exact Out.refl _ _ | refine Out.upd ?_ rfl | refine Out.updL ?_ rfl | refine Out.mix' ?_ rfl | exact Out.refl _ _)), rfl, rfl, trivial⟩, ch276, hs11, hm⟩
  ·
   replace hm := bif_f hm hg277
   refine Rg_opg rfl rfl rfl (op_move (v := (Value.int .i64 from_)) rfl ?_)
   refine Rg_opg rfl rfl rfl (op_lss rfl rfl ?_)
   refine Rg_op rfl (op_pick_f (v := (Value.bool (decide (from_ < 0)))) rfl rfl ?_)
   refine Rg_op rfl (op_move (v := (Value.bool (decide (from_ < 0)))) rfl ?_)
   refine Rg_case (fun hg278 => ?_) (fun hg278 => ?_)
   ·
    replace hm := bif_t hm hg278
    iterate 4 refine Rg_opx rfl (asB_ne rfl rfl) rfl ?_
    refine Rg_op rfl (op_pick_t (v := (Value.bool true)) rfl rfl ?_)
    refine Rg_op rfl (op_move (v := (Value.bool true)) rfl ?_)
    iterate 2 refine Rg_opx rfl (asB_ne rfl rfl) rfl ?_
    refine Rg_op rfl (op_pick_t (v := (Value.bool true)) rfl rfl ?_)
    refine Rg_op rfl (op_move (v := (Value.bool true)) rfl ?_)
    iterate 4 refine Rg_opx rfl (asB_ne rfl rfl) rfl ?_
    refine Rg_op rfl (op_pick_t (v := (Value.bool true)) rfl rfl ?_)
    refine Rg_nil ?_
    exact hK23 _ _ ⟨true, _, rfl, ⟨(by repeat (first | with_reducible exact Out.refl _ _ | refine Out.upd ?_ rfl | refine Out.updL ?_ rfl | refine Out.mix' ?_ rfl | exact Out.refl _ _)), rfl, rfl, trivial⟩, ch276, hs11, hm⟩
   ·
    replace hm := bif_f hm hg278
    refine Rg_opg rfl rfl rfl (op_move (v := (Value.int .i64 from_)) rfl ?_)
    refine Rg_opg rfl rfl rfl (op_move (v := (Value.slice a_y17 divisions_1.1.length c_y17)) rfl ?_)
    refine Rg_opg rfl rfl rfl (op_len Try.underlying56 rfl ?_)
    refine Rg_opg rfl rfl rfl (op_geq rfl rfl ?_)
    refine Rg_op rfl (op_pick_f (v := (Value.bool (decide ((divisions_1.1.length : Int) ≤ from_)))) rfl rfl ?_)
    refine Rg_op rfl (op_move (v := (Value.bool (decide ((divisions_1.1.length : Int) ≤ from_)))) rfl ?_)
    refine Rg_case (fun hg279 => ?_) (fun hg279 => ?_)
    ·
     replace hm := bif_t hm hg279
     iterate 2 refine Rg_opx rfl (asB_ne rfl rfl) rfl ?_
     refine Rg_op rfl (op_pick_t (v := (Value.bool true)) rfl rfl ?_)
     refine Rg_op rfl (op_move (v := (Value.bool true)) rfl ?_)
     iterate 4 refine Rg_opx rfl (asB_ne rfl rfl) rfl ?_
     refine Rg_op rfl (op_pick_t (v := (Value.bool true)) rfl rfl ?_)
     refine Rg_nil ?_
     exact hK23 _ _ ⟨true, _, rfl, ⟨(by repeat (first | with_reducible exact Out.refl _ _ | refine Out.upd ?_ rfl | refine Out.updL ?_ rfl | refine Out.mix' ?_ rfl | exact Out.refl _ _)), rfl, rfl, trivial⟩, ch276, hs11, hm⟩
    ·
     replace hm := bif_f hm hg279
     refine Rg_opg rfl rfl rfl (op_move (v := (Value.int .i64 to)) rfl ?_)
     refine Rg_opg rfl rfl rfl (op_lss rfl rfl ?_)
     refine Rg_op rfl (op_pick_f (v := (Value.bool (decide (to < 0)))) rfl rfl ?_)
     refine Rg_op rfl (op_move (v := (Value.bool (decide (to < 0)))) rfl ?_)
     refine Rg_case (fun hg280 => ?_) (fun hg280 => ?_)
     ·
      replace hm := bif_t hm hg280
      iterate 4 refine Rg_opx rfl (asB_ne rfl rfl) rfl ?_
      refine Rg_op rfl (op_pick_t (v := (Value.bool true)) rfl rfl ?_)
      refine Rg_nil ?_
      exact hK23 _ _ ⟨true, _, rfl, ⟨(by repeat (first | with_reducible exact Out.refl _ _ | refine Out.upd ?_ rfl | refine Out.updL ?_ rfl | refine Out.mix' ?_ rfl | exact Out.refl _ _)), rfl, rfl, trivial⟩, ch276, hs11, hm⟩
     ·
      replace hm := bif_f hm hg280
      refine Rg_opg rfl rfl rfl (op_move (v := (Value.int .i64 to)) rfl ?_)
      refine Rg_opg rfl rfl rfl (op_move (v := (Value.slice a_y17 divisions_1.1.length c_y17)) rfl ?_)
      refine Rg_opg rfl rfl rfl (op_len Try.underlying56 rfl ?_)
      refine Rg_opg rfl rfl rfl (op_geq rfl rfl ?_)
      refine Rg_op rfl (op_pick_f (v := (Value.bool (decide ((divisions_1.1.length : Int) ≤ to)))) rfl rfl ?_)
      refine Rg_nil ?_
      exact hK23 _ _ ⟨(decide ((divisions_1.1.length : Int) ≤ to)), _, rfl, ⟨(by repeat (first | with_reducible exact Out.refl _ _ | refine Out.upd ?_ rfl | refine Out.updL ?_ rfl | refine Out.mix' ?_ rfl | exact Out.refl _ _)), rfl, rfl, trivial⟩, ch276, hs11, hm⟩

end Go.Fx



set_option linter.unusedVariables false
set_option linter.unusedSimpArgs false
set_option maxRecDepth 100000
set_option maxHeartbeats 0
namespace Go.Fx
open Go Go.RowKit Go.Proofs
def m24_configs_Stuck (a : XAirspace) : Option (Int × Int × Bool × Int) :=
 (m31_configs_divisions a).bind fun divisions_1 =>
 bif (!divisions_1.2) then
  some (0, 0, false, 100)
 else
  (m34_configs_distances divisions_1.1 0).bind fun distances_1 =>
  (m39_slices_Indexint_int_ distances_1 (-1)).bind fun index_1 =>
  bif (decide (0 ≤ index_1)) then
   some (0, index_1, true, 0)
  else
   some (0, 0, false, 0)

theorem c24_configs_Stuck {w : World} {O : List Nat} {a : XAirspace} {a_a_volumes : Option Addr} {c_a_volumes : Nat} {a_a_sectors : Option Addr} {c_a_sectors : Nat} {a_a_configs : Option Addr} {c_a_configs : Nat} {a_a_segments : Option Addr} {c_a_segments : Nat} {a_a_routes : Option Addr} {c_a_routes : Nat} {a_a_airports : Option Addr} {c_a_airports : Nat} {a_a_classes : Option Addr} {c_a_classes : Nat} {a_a_rules : Option Addr} {c_a_rules : Nat} (hO : ∀ k ∈ O, k < w.heap.size) (f_a_volumes : SlR rXVolume w O a_a_volumes c_a_volumes a.volumes) (f_a_sectors : SlR rXSector w O a_a_sectors c_a_sectors a.sectors) (f_a_configs : SlR rXConfig w O a_a_configs c_a_configs a.configs) (f_a_segments : SlR rXSegment w O a_a_segments c_a_segments a.segments) (f_a_routes : SlR rXRoute w O a_a_routes c_a_routes a.routes) (f_a_airports : SlR rXAirport w O a_a_airports c_a_airports a.airports) (f_a_classes : SlR rXClass w O a_a_classes c_a_classes a.classes) (f_a_rules : SlR rXRule w O a_a_rules c_a_rules a.rules) {x : Int × Int × Bool × Int} (hm : m24_configs_Stuck a = some x) :
  Ok Try.prog 24 [(Value.agg [(Value.slice a_a_volumes a.volumes.length c_a_volumes), (Value.slice a_a_sectors a.sectors.length c_a_sectors), (Value.slice a_a_configs a.configs.length c_a_configs), (Value.slice a_a_segments a.segments.length c_a_segments), (Value.slice a_a_routes a.routes.length c_a_routes), (Value.slice a_a_airports a.airports.length c_a_airports), (Value.slice a_a_classes a.classes.length c_a_classes), (Value.slice a_a_rules a.rules.length c_a_rules)].toArray)] w O (vT4 (vI .i64) (vI .i64) vB (vI .i64)) x := by
 unfold m24_configs_Stuck at hm
 refine Fn_of_Wp (n := 21) (xs := [.tmp 2, .tmp 3, .tmp 4, .tmp 5]) Try.func24 rfl Try.ntmps24 Try.results24 rfl ?_
 have hs := St.start hO
 refine Wp_seq ?_
 refine Wp_region ?_
 refine Rg_op rfl (op_box (cs := [(Value.slice a_a_volumes a.volumes.length c_a_volumes), (Value.slice a_a_sectors a.sectors.length c_a_sectors), (Value.slice a_a_configs a.configs.length c_a_configs), (Value.slice a_a_segments a.segments.length c_a_segments), (Value.slice a_a_routes a.routes.length c_a_routes), (Value.slice a_a_airports a.airports.length c_a_airports), (Value.slice a_a_classes a.classes.length c_a_classes), (Value.slice a_a_rules a.rules.length c_a_rules)]) hs rfl rfl ?_)
 intro b1 w2 _ p3 hs4
 replace f_a_volumes := f_a_volumes.step p3; replace f_a_sectors := f_a_sectors.step p3; replace f_a_configs := f_a_configs.step p3; replace f_a_segments := f_a_segments.step p3; replace f_a_routes := f_a_routes.step p3; replace f_a_airports := f_a_airports.step p3; replace f_a_classes := f_a_classes.step p3; replace f_a_rules := f_a_rules.step p3; clear p3
 refine Rg_op rfl (op_assign (v := (Value.int .i64 0)) rfl ?_)
 refine Rg_op rfl (op_assign (v := (Value.int .i64 0)) rfl ?_)
 refine Rg_op rfl (op_assign (v := (Value.bool false)) rfl ?_)
 refine Rg_op rfl (op_assign (v := (Value.int .i64 0)) rfl ?_)
 refine Rg_nil ?_
 refine Wp_seq ?_
 refine Wp_region ?_
 refine Rg_op rfl (op_loadA (cs := [(Value.slice a_a_volumes a.volumes.length c_a_volumes), (Value.slice a_a_sectors a.sectors.length c_a_sectors), (Value.slice a_a_configs a.configs.length c_a_configs), (Value.slice a_a_segments a.segments.length c_a_segments), (Value.slice a_a_routes a.routes.length c_a_routes), (Value.slice a_a_airports a.airports.length c_a_airports), (Value.slice a_a_classes a.classes.length c_a_classes), (Value.slice a_a_rules a.rules.length c_a_rules)]) (vs := [(Value.slice a_a_volumes a.volumes.length c_a_volumes), (Value.slice a_a_sectors a.sectors.length c_a_sectors), (Value.slice a_a_configs a.configs.length c_a_configs), (Value.slice a_a_segments a.segments.length c_a_segments), (Value.slice a_a_routes a.routes.length c_a_routes), (Value.slice a_a_airports a.airports.length c_a_airports), (Value.slice a_a_classes a.classes.length c_a_classes), (Value.slice a_a_rules a.rules.length c_a_rules)]) (i := 0) ty31 hs4 rfl rfl rfl rfl ?_)
 replace hm := bd hm; obtain ⟨divisions_1, hv6, hm⟩ := hm
 refine Rg_op rfl (op_call Try.call31 (c31_configs_divisions (a := a) hs4.ltw f_a_volumes f_a_sectors f_a_configs f_a_segments f_a_routes f_a_airports f_a_classes f_a_rules hv6) rfl ?_)
 rintro v7 w8 ⟨hx9, h10⟩
 have hs11 := hs4.call hx9
 have p12 := Step.ext (O := ks [(some b1, Obj.cells [(Value.slice a_a_volumes a.volumes.length c_a_volumes), (Value.slice a_a_sectors a.sectors.length c_a_sectors), (Value.slice a_a_configs a.configs.length c_a_configs), (Value.slice a_a_segments a.segments.length c_a_segments), (Value.slice a_a_routes a.routes.length c_a_routes), (Value.slice a_a_airports a.airports.length c_a_airports), (Value.slice a_a_classes a.classes.length c_a_classes), (Value.slice a_a_rules a.rules.length c_a_rules)].toArray 31)] O) hx9
 clear hx9
 replace f_a_volumes := f_a_volumes.step p12; replace f_a_sectors := f_a_sectors.step p12; replace f_a_configs := f_a_configs.step p12; replace f_a_segments := f_a_segments.step p12; replace f_a_routes := f_a_routes.step p12; replace f_a_airports := f_a_airports.step p12; replace f_a_classes := f_a_classes.step p12; replace f_a_rules := f_a_rules.step p12; clear p12 hs4
 obtain ⟨v13, v14, rfl, h15, h16⟩ := h10
 obtain ⟨a_y17, c_y17, rfl, f_y17⟩ := un_sl h15
 obtain rfl := h16
 refine Rg_op rfl (op_move (v := (Value.tuple [(Value.slice a_y17 divisions_1.1.length c_y17), (Value.bool divisions_1.2)].toArray)) rfl ?_)
 refine Rg_op rfl (op_extract (v := (Value.slice a_y17 divisions_1.1.length c_y17)) rfl rfl ?_)
 refine Rg_op rfl (op_extract (v := (Value.bool divisions_1.2)) rfl rfl ?_)
 refine Rg_op rfl (op_assign (v := (Value.slice a_y17 divisions_1.1.length c_y17)) rfl ?_)
 refine Rg_op rfl (op_assign (v := (Value.bool divisions_1.2)) rfl ?_)
 refine Rg_nil ?_
 refine Wp_seq ?_
 refine Wp_seq ?_
 obtain ⟨hs19, p20⟩ := hs11.sub (bs' := []) (.cons _ List.Sublist.slnil)
 clear f_a_volumes f_a_sectors f_a_configs f_a_segments f_a_routes f_a_airports f_a_classes f_a_rules
 replace f_y17 := f_y17.step p20; clear p20 hs11
 refine Wp_region ?_
 refine Rg_op rfl (op_move (v := (Value.bool divisions_1.2)) rfl ?_)
 refine Rg_op rfl (op_not rfl ?_)
 refine Rg_nil ?_
 refine Wp_cond rfl (fun hc21 => ?_) (fun hc21 => ?_)
 ·
  replace hm := bif_t hm hc21
  refine Wp_seq ?_
  clear f_y17
  refine Wp_region ?_
  refine Rg_op rfl (op_assign (v := (Value.int .i64 0)) rfl ?_)
  refine Rg_op rfl (op_assign (v := (Value.int .i64 0)) rfl ?_)
  refine Rg_op rfl (op_assign (v := (Value.bool false)) rfl ?_)
  refine Rg_op rfl (op_assign (v := (Value.int .i64 100)) rfl ?_)
  refine Rg_nil ?_
  refine Wp_ret ?_
  have hz := step_all hs19
  refine ⟨_, (show Closes [] _ _ from rfl), [(Value.int .i64 0), (Value.int .i64 0), (Value.bool false), (Value.int .i64 100)], ⟨rfl, rfl, rfl, rfl, trivial⟩, hs19.ext, ?_⟩
  exact Vr.eq (a := (vT4 (vI .i64) (vI .i64) vB (vI .i64))) (x := (0, 0, false, 100)) (mkT4 ⟨rfl, (show InK .i64 0 from by decide)⟩ ⟨rfl, (show InK .i64 0 from by decide)⟩ rfl ⟨rfl, (show InK .i64 100 from by decide)⟩) (Option.some.inj hm)
 ·
  replace hm := bif_f hm hc21
  refine Wp_skip ?_
  refine Wp_seq ?_
  refine Wp_seq ?_
  refine Wp_region ?_
  refine Rg_op rfl (op_move (v := (Value.slice a_y17 divisions_1.1.length c_y17)) rfl ?_)
  replace hm := bd hm; obtain ⟨distances_1, hv22, hm⟩ := hm
  refine Rg_op rfl (op_call Try.call34 (g34_configs_distances (l := divisions_1.1) (to := 0) hs19.ltw f_y17 (show InK .i64 0 from by decide) hv22) rfl ?_)
  rintro _ w24 ⟨hx25, a28, c29, k30, o31, rfl, hk32, f33⟩
  obtain ⟨hs27, p34⟩ := hs19.callG (o := o31) hx25 hk32
  rw [← ks_cons (o := o31)] at f33
  replace f_y17 := f_y17.step p34; clear p34 hs19
  obtain ⟨hs36, p37, f38⟩ := Gs.publish (i := 0) hs27 rfl f33
  replace hm := bd hm; obtain ⟨index_1, hv39, hm⟩ := hm
  refine Rg_op rfl (op_call Try.call39 (c39_slices_Indexint_int_ (s := distances_1) (v := (-1)) hs36.ltw f38 (show InK .i64 (-1) from by decide) hv39) rfl ?_)
  rintro v40 w41 ⟨hx42, h43⟩
  have hs44 := hs27.call hx42
  have p45 := Step.ext (O := ks [(k30, o31)] O) hx42
  clear hx42
  replace f_y17 := f_y17.step p45; replace f33 := f33.step p45; clear p45 hs27
  obtain ⟨rfl, r_y46⟩ := h43
  refine Rg_op rfl (op_assign (v := (Value.int .i64 index_1)) rfl ?_)
  refine Rg_nil ?_
  refine Wp_seq ?_
  obtain ⟨hs47, p48⟩ := hs44.sub (bs' := []) (.cons _ List.Sublist.slnil)
  clear f_y17 f33
  clear p48 hs44
  refine Wp_region ?_
  refine Rg_op rfl (op_move (v := (Value.int .i64 index_1)) rfl ?_)
  refine Rg_op rfl (op_geq rfl rfl ?_)
  refine Rg_nil ?_
  refine Wp_cond rfl (fun hc49 => ?_) (fun hc49 => ?_)
  ·
   replace hm := bif_t hm hc49
   refine Wp_seq ?_
   refine Wp_region ?_
   refine Rg_op rfl (op_move (v := (Value.int .i64 index_1)) rfl ?_)
   refine Rg_op rfl (op_assign (v := (Value.int .i64 0)) rfl ?_)
   refine Rg_op rfl (op_assign (v := (Value.int .i64 index_1)) rfl ?_)
   refine Rg_op rfl (op_assign (v := (Value.bool true)) rfl ?_)
   refine Rg_op rfl (op_assign (v := (Value.int .i64 0)) rfl ?_)
   refine Rg_nil ?_
   refine Wp_ret ?_
   have hz := step_all hs47
   refine ⟨_, (show Closes [] _ _ from rfl), [(Value.int .i64 0), (Value.int .i64 index_1), (Value.bool true), (Value.int .i64 0)], ⟨rfl, rfl, rfl, rfl, trivial⟩, hs47.ext, ?_⟩
   exact Vr.eq (a := (vT4 (vI .i64) (vI .i64) vB (vI .i64))) (x := (0, index_1, true, 0)) (mkT4 ⟨rfl, (show InK .i64 0 from by decide)⟩ ⟨rfl, r_y46⟩ rfl ⟨rfl, (show InK .i64 0 from by decide)⟩) (Option.some.inj hm)
  ·
   replace hm := bif_f hm hc49
   refine Wp_skip ?_
   refine Wp_seq ?_
   refine Wp_region ?_
   refine Rg_op rfl (op_assign (v := (Value.int .i64 0)) rfl ?_)
   refine Rg_op rfl (op_assign (v := (Value.int .i64 0)) rfl ?_)
   refine Rg_op rfl (op_assign (v := (Value.bool false)) rfl ?_)
   refine Rg_op rfl (op_assign (v := (Value.int .i64 0)) rfl ?_)
   refine Rg_nil ?_
   refine Wp_ret ?_
   have hz := step_all hs47
   refine ⟨_, (show Closes [] _ _ from rfl), [(Value.int .i64 0), (Value.int .i64 0), (Value.bool false), (Value.int .i64 0)], ⟨rfl, rfl, rfl, rfl, trivial⟩, hs47.ext, ?_⟩
   exact Vr.eq (a := (vT4 (vI .i64) (vI .i64) vB (vI .i64))) (x := (0, 0, false, 0)) (mkT4 ⟨rfl, (show InK .i64 0 from by decide)⟩ ⟨rfl, (show InK .i64 0 from by decide)⟩ rfl ⟨rfl, (show InK .i64 0 from by decide)⟩) (Option.some.inj hm)

end Go.Fx



set_option linter.unusedVariables false
set_option linter.unusedSimpArgs false
set_option maxRecDepth 100000
set_option maxHeartbeats 0
namespace Go.Fx
open Go Go.RowKit Go.Proofs
def m40_overflightlaw10_example_1 (l : List Int) : Option XSector :=
 some (⟨[], ([] : List (List UInt8)), l, 0, 0⟩ : XSector)

theorem c40_overflightlaw10_example_1 {w : World} {O : List Nat} {l : List Int} {a_l : Option Addr} {c_l : Nat} (hO : ∀ k ∈ O, k < w.heap.size) (f_l : SlR (rInt .i64) w O a_l c_l l) {x : XSector} (hm : m40_overflightlaw10_example_1 l = some x) :
  Ok Try.prog 40 [(Value.slice a_l l.length c_l)] w O (vA rXSector) x := by
 unfold m40_overflightlaw10_example_1 at hm
 refine Fn_of_Wp (n := 5) (xs := [.cell 2 50]) Try.func40 rfl Try.ntmps40 Try.results40 rfl ?_
 have hs := St.start hO
 refine Wp_seq ?_
 refine Wp_region ?_
 refine Rg_op rfl (op_alloc ty50 hs ?_)
 intro b1 w2 _ p3 hs4
 replace f_l := f_l.step p3; clear p3
 refine Rg_nil ?_
 refine Wp_seq ?_
 refine Wp_region ?_
 refine Rg_op rfl (op_move (v := (Value.slice a_l l.length c_l)) rfl ?_)
 refine Rg_op rfl (op_build (vs := [(Value.string (bs [])), (Value.slice none 0 0), (Value.slice a_l l.length c_l), (Value.int .i64 0), (Value.int .i64 0)]) (parts := [(2, .tmp 3)]) ty50 pl50 rfl ?_)
 refine Rg_op_ (op_store (cs := [(Value.string (bs [])), (Value.slice none 0 0), (Value.slice none 0 0), (Value.int .i64 0), (Value.int .i64 0)]) (vs := [(Value.string (bs [])), (Value.slice none 0 0), (Value.slice a_l l.length c_l), (Value.int .i64 0), (Value.int .i64 0)]) (cs' := [(Value.string (bs [])), (Value.slice none 0 0), (Value.slice a_l l.length c_l), (Value.int .i64 0), (Value.int .i64 0)]) (bs' := [(some b1, Obj.cells [(Value.string (bs [])), (Value.slice none 0 0), (Value.slice a_l l.length c_l), (Value.int .i64 0), (Value.int .i64 0)].toArray 50)]) (i := 0) ty50 hs4 rfl rfl rfl rfl rfl (le_lit rfl) rfl rfl rfl ?_)
 intro w6 p7 hs8
 replace f_l := f_l.step p7; clear p7 hs4
 refine Rg_nil ?_
 refine Wp_ret ?_
 have hz := step_all hs8
 replace f_l := f_l.step hz
 refine ⟨_, (show Closes [] _ _ from rfl), [(Value.agg [(Value.string (bs [])), (Value.slice none 0 0), (Value.slice a_l l.length c_l), (Value.int .i64 0), (Value.int .i64 0)].toArray)], ⟨resA (cs := [(Value.string (bs [])), (Value.slice none 0 0), (Value.slice a_l l.length c_l), (Value.int .i64 0), (Value.int .i64 0)]) (vs := [(Value.string (bs [])), (Value.slice none 0 0), (Value.slice a_l l.length c_l), (Value.int .i64 0), (Value.int .i64 0)]) ty50 (i := 0) hs8 rfl rfl rfl rfl, trivial⟩, hs8.ext, ?_⟩
 exact Vr.eq (a := (vA rXSector)) (x := (⟨[], ([] : List (List UInt8)), l, 0, 0⟩ : XSector)) (mkA (mkVia (mk_pair mkStr (mk_pair (mk_sl SlR.nil_) (mk_pair (mk_sl f_l) (mk_pair (mk_int (show InK .i64 0 from by decide)) (mk_int (show InK .i64 0 from by decide)))))))) (Option.some.inj hm)

end Go.Fx



set_option linter.unusedVariables false
set_option linter.unusedSimpArgs false
set_option maxRecDepth 100000
set_option maxHeartbeats 0
namespace Go.Fx
open Go Go.RowKit Go.Proofs
def m28_overflightlaw10_example : Option XAirspace :=
 ((fun x6 => m40_overflightlaw10_example_1 x6) [0]).bind fun r_1 =>
 ((fun x6 => m40_overflightlaw10_example_1 x6) [1]).bind fun r_2 =>
 ((fun x6 => m40_overflightlaw10_example_1 x6) [2]).bind fun r_3 =>
 ((fun x6 => m40_overflightlaw10_example_1 x6) [1, 0]).bind fun r_4 =>
 ((fun x6 => m40_overflightlaw10_example_1 x6) [2, 1, 0]).bind fun r_5 =>
 some (⟨([(⟨[], ([] : List XSpan)⟩ : XVolume), (⟨[], ([] : List XSpan)⟩ : XVolume), (⟨[], ([] : List XSpan)⟩ : XVolume)] : List XVolume), [r_1, r_2, r_3, r_4, r_5], [(⟨[], ([] : List (List UInt8)), [4]⟩ : XConfig), (⟨[], ([] : List (List UInt8)), [0, 1, 2]⟩ : XConfig), (⟨[], ([] : List (List UInt8)), [2, 3]⟩ : XConfig)], ([] : List XSegment), ([] : List XRoute), ([] : List XAirport), ([] : List XClass), ([] : List XRule)⟩ : XAirspace)

theorem c28_overflightlaw10_example {w : World} {O : List Nat} (hO : ∀ k ∈ O, k < w.heap.size) {x : XAirspace} (hm : m28_overflightlaw10_example = some x) :
  Ok Try.prog 28 [] w O (vA rXAirspace) x := by
 unfold m28_overflightlaw10_example at hm
 refine Fn_of_Wp (n := 27) (xs := [.cell 0 31]) Try.func28 rfl Try.ntmps28 Try.results28 rfl ?_
 have hs := St.start hO
 refine Wp_seq ?_
 refine Wp_region ?_
 refine Rg_op rfl (op_alloc ty31 hs ?_)
 intro b1 w2 _ p3 hs4
 clear p3
 refine Rg_nil ?_
 refine Wp_seq ?_
 refine Wp_region ?_
 have F7 : CallsTo1 Try.prog w2 (ks [(some b1, Obj.cells [(Value.slice none 0 0), (Value.slice none 0 0), (Value.slice none 0 0), (Value.slice none 0 0), (Value.slice none 0 0), (Value.slice none 0 0), (Value.slice none 0 0), (Value.slice none 0 0)].toArray 31)] O) (Value.func (.func 40) #[] #[]) (vC (rSl (rInt .i64))) (vA rXSector) (fun x6 => m40_overflightlaw10_example_1 x6) := by
  intro w8 O9 st10 hO11 v14 x6 y12 h15 hy13
  obtain ⟨a_y16, c_y16, rfl, f_y16⟩ := un_sl h15
  exact ⟨40, #[], #[], rfl, Try.call40, c40_overflightlaw10_example_1 (l := x6) hO11 f_y16 hy13⟩
 refine Rg_op rfl (op_assign (v := (Value.func (.func 40) #[] #[])) rfl ?_)
 refine Rg_nil ?_
 refine Wp_seq ?_
 refine Wp_drawR (g0 := []) (m := 24) (fl := []) (TS_inv hs4) (.inl rfl) rfl (by decide +kernel) ?_  -- 2
 refine Dw_op (VD O [(some b1, Obj.cells [(Value.slice none 0 0), (Value.slice none 0 0), (Value.slice none 0 0), (Value.slice none 0 0), (Value.slice none 0 0), (Value.slice none 0 0), (Value.slice none 0 0), (Value.slice none 0 0)].toArray 31)] (vC (rSl rXVolume)) ([(⟨[], ([] : List XSpan)⟩ : XVolume), (⟨[], ([] : List XSpan)⟩ : XVolume), (⟨[], ([] : List XSpan)⟩ : XVolume)] : List XVolume)) (VD.stab _ _) (fun ρ17 w18 g hle hi ht => ?_) ?_
 ·
  obtain ⟨-, hst, -⟩ := hle
  replace F7 := F7.step hst
  refine StepOp_plain (op_makeSliceK (q := rXVolume) (N := 3) (n := 2) (cs := [(Value.string (bs [])), (Value.slice none 0 0), (Value.string (bs [])), (Value.slice none 0 0), (Value.string (bs [])), (Value.slice none 0 0)]) (xs := ([(⟨[], ([] : List XSpan)⟩ : XVolume), (⟨[], ([] : List XSpan)⟩ : XVolume), (⟨[], ([] : List XSpan)⟩ : XVolume)] : List XVolume)) ty22 ty102 hi rfl rfl (le_lit rfl) (le_lit rfl) (by kernel_rfl) rfl rfl (fun _ _ => ⟨_, _, rfl, (mkVia (mk_pair mkStr (mk_sl SlR.nil_))), ⟨_, _, rfl, (mkVia (mk_pair mkStr (mk_sl SlR.nil_))), ⟨_, _, rfl, (mkVia (mk_pair mkStr (mk_sl SlR.nil_))), Els.nil⟩⟩⟩) ?_)
  intro b20 w21 hx25 p22 hs23 f24
  replace F7 := F7.step p22
  obtain ⟨hs27, p28, f29⟩ := Gs.publish (i := 0) hs23 rfl f24
  exact Goes.pub hi hs27 (Step.trans p22 p28) hx25 (show Vr.vd (vC (rSl rXVolume)) _ _ _ _ from mkC (mk_sl f29))
 refine Dw_eq (Value.func (.func 40) #[] #[]) (fun ρ30 w31 g hle hi ht => ?_) ?_
 ·
  obtain ⟨-, hst, -⟩ := hle
  refine StepOp_plain (op_move (v := (Value.func (.func 40) #[] #[])) (ht 1 rfl) ?_)
  exact Goes.same hi rfl
 refine Dw_op (VD O [(some b1, Obj.cells [(Value.slice none 0 0), (Value.slice none 0 0), (Value.slice none 0 0), (Value.slice none 0 0), (Value.slice none 0 0), (Value.slice none 0 0), (Value.slice none 0 0), (Value.slice none 0 0)].toArray 31)] (vC (rSl (rInt .i64))) [0]) (VD.stab _ _) (fun ρ33 w34 g hle hi ht => ?_) ?_
 ·
  obtain ⟨-, hst, -⟩ := hle
  replace F7 := F7.step hst
  refine StepOp_plain (op_buildSlice (cs := [(Value.int .i64 0)]) (parts := [(0, .const (.int .i64 0))]) ty39 ty3 hi (by decide) (by simp only [List.map, (show ev _ (.const (.int .i64 0)) = .int .i64 0 from rfl)]; rfl) ?_)
  intro b36 w37 hx40 p38 hs39
  replace F7 := F7.step p38
  obtain ⟨hs42, p43, f44⟩ := St.publish (i := 0) (o := 0) (c := 1) (xs := [0]) hs39 rfl (show Els (rInt .i64) _ _ [(Value.int .i64 0)] [0] from ⟨_, _, rfl, (mk_int (show InK .i64 0 from by decide)), Els.nil⟩) (le_lit rfl) (le_lit rfl) (le_lit rfl)
  exact Goes.pub hi hs42 (Step.trans p38 p43) hx40 (show Vr.vd (vC (rSl (rInt .i64))) _ _ _ _ from mkC (mk_sl f44))
 replace hm := bd hm; obtain ⟨r_1, hv51, hm⟩ := hm
 refine Dw_op (VD O [(some b1, Obj.cells [(Value.slice none 0 0), (Value.slice none 0 0), (Value.slice none 0 0), (Value.slice none 0 0), (Value.slice none 0 0), (Value.slice none 0 0), (Value.slice none 0 0), (Value.slice none 0 0)].toArray 31)] (vA rXSector) r_1) (VD.stab _ _) (fun ρ45 w46 g hle hi ht => ?_) ?_
 ·
  obtain ⟨-, hst, -⟩ := hle
  replace F7 := F7.step hst
  have h48 : Vr.vd (vC (rSl (rInt .i64))) _ _ _ _ := ht 4 rfl
  obtain ⟨a_y50, c_y50, q49, f_y50⟩ := un_sl h48
  refine StepOp_plain (op_callF (ht 3 rfl) (F7.call hi.ltw (mkC (mk_sl f_y50)) hv51) (by simp only [List.map, Array.toList, (show ev _ (.tmp 4) = _ from q49)] <;> rfl) ?_)
  rintro v52 w53 ⟨hx54, h55⟩
  exact Goes.call hi hx54 h55
 refine Dw_eq (Value.func (.func 40) #[] #[]) (fun ρ57 w58 g hle hi ht => ?_) ?_
 ·
  obtain ⟨-, hst, -⟩ := hle
  refine StepOp_plain (op_move (v := (Value.func (.func 40) #[] #[])) (ht 1 rfl) ?_)
  exact Goes.same hi rfl
 refine Dw_op (VD O [(some b1, Obj.cells [(Value.slice none 0 0), (Value.slice none 0 0), (Value.slice none 0 0), (Value.slice none 0 0), (Value.slice none 0 0), (Value.slice none 0 0), (Value.slice none 0 0), (Value.slice none 0 0)].toArray 31)] (vC (rSl (rInt .i64))) [1]) (VD.stab _ _) (fun ρ60 w61 g hle hi ht => ?_) ?_
 ·
  obtain ⟨-, hst, -⟩ := hle
  replace F7 := F7.step hst
  refine StepOp_plain (op_buildSlice (cs := [(Value.int .i64 1)]) (parts := [(0, .const (.int .i64 1))]) ty39 ty3 hi (by decide) (by simp only [List.map, (show ev _ (.const (.int .i64 1)) = .int .i64 1 from rfl)]; rfl) ?_)
  intro b63 w64 hx67 p65 hs66
  replace F7 := F7.step p65
  obtain ⟨hs69, p70, f71⟩ := St.publish (i := 0) (o := 0) (c := 1) (xs := [1]) hs66 rfl (show Els (rInt .i64) _ _ [(Value.int .i64 1)] [1] from ⟨_, _, rfl, (mk_int (show InK .i64 1 from by decide)), Els.nil⟩) (le_lit rfl) (le_lit rfl) (le_lit rfl)
  exact Goes.pub hi hs69 (Step.trans p65 p70) hx67 (show Vr.vd (vC (rSl (rInt .i64))) _ _ _ _ from mkC (mk_sl f71))
 replace hm := bd hm; obtain ⟨r_2, hv78, hm⟩ := hm
 refine Dw_op (VD O [(some b1, Obj.cells [(Value.slice none 0 0), (Value.slice none 0 0), (Value.slice none 0 0), (Value.slice none 0 0), (Value.slice none 0 0), (Value.slice none 0 0), (Value.slice none 0 0), (Value.slice none 0 0)].toArray 31)] (vA rXSector) r_2) (VD.stab _ _) (fun ρ72 w73 g hle hi ht => ?_) ?_
 ·
  obtain ⟨-, hst, -⟩ := hle
  replace F7 := F7.step hst
  have h75 : Vr.vd (vC (rSl (rInt .i64))) _ _ _ _ := ht 7 rfl
  obtain ⟨a_y77, c_y77, q76, f_y77⟩ := un_sl h75
  refine StepOp_plain (op_callF (ht 6 rfl) (F7.call hi.ltw (mkC (mk_sl f_y77)) hv78) (by simp only [List.map, Array.toList, (show ev _ (.tmp 7) = _ from q76)] <;> rfl) ?_)
  rintro v79 w80 ⟨hx81, h82⟩
  exact Goes.call hi hx81 h82
 refine Dw_eq (Value.func (.func 40) #[] #[]) (fun ρ84 w85 g hle hi ht => ?_) ?_
 ·
  obtain ⟨-, hst, -⟩ := hle
  refine StepOp_plain (op_move (v := (Value.func (.func 40) #[] #[])) (ht 1 rfl) ?_)
  exact Goes.same hi rfl
 refine Dw_op (VD O [(some b1, Obj.cells [(Value.slice none 0 0), (Value.slice none 0 0), (Value.slice none 0 0), (Value.slice none 0 0), (Value.slice none 0 0), (Value.slice none 0 0), (Value.slice none 0 0), (Value.slice none 0 0)].toArray 31)] (vC (rSl (rInt .i64))) [2]) (VD.stab _ _) (fun ρ87 w88 g hle hi ht => ?_) ?_
 ·
  obtain ⟨-, hst, -⟩ := hle
  replace F7 := F7.step hst
  refine StepOp_plain (op_buildSlice (cs := [(Value.int .i64 2)]) (parts := [(0, .const (.int .i64 2))]) ty39 ty3 hi (by decide) (by simp only [List.map, (show ev _ (.const (.int .i64 2)) = .int .i64 2 from rfl)]; rfl) ?_)
  intro b90 w91 hx94 p92 hs93
  replace F7 := F7.step p92
  obtain ⟨hs96, p97, f98⟩ := St.publish (i := 0) (o := 0) (c := 1) (xs := [2]) hs93 rfl (show Els (rInt .i64) _ _ [(Value.int .i64 2)] [2] from ⟨_, _, rfl, (mk_int (show InK .i64 2 from by decide)), Els.nil⟩) (le_lit rfl) (le_lit rfl) (le_lit rfl)
  exact Goes.pub hi hs96 (Step.trans p92 p97) hx94 (show Vr.vd (vC (rSl (rInt .i64))) _ _ _ _ from mkC (mk_sl f98))
 replace hm := bd hm; obtain ⟨r_3, hv105, hm⟩ := hm
 refine Dw_op (VD O [(some b1, Obj.cells [(Value.slice none 0 0), (Value.slice none 0 0), (Value.slice none 0 0), (Value.slice none 0 0), (Value.slice none 0 0), (Value.slice none 0 0), (Value.slice none 0 0), (Value.slice none 0 0)].toArray 31)] (vA rXSector) r_3) (VD.stab _ _) (fun ρ99 w100 g hle hi ht => ?_) ?_
 ·
  obtain ⟨-, hst, -⟩ := hle
  replace F7 := F7.step hst
  have h102 : Vr.vd (vC (rSl (rInt .i64))) _ _ _ _ := ht 10 rfl
  obtain ⟨a_y104, c_y104, q103, f_y104⟩ := un_sl h102
  refine StepOp_plain (op_callF (ht 9 rfl) (F7.call hi.ltw (mkC (mk_sl f_y104)) hv105) (by simp only [List.map, Array.toList, (show ev _ (.tmp 10) = _ from q103)] <;> rfl) ?_)
  rintro v106 w107 ⟨hx108, h109⟩
  exact Goes.call hi hx108 h109
 refine Dw_eq (Value.func (.func 40) #[] #[]) (fun ρ111 w112 g hle hi ht => ?_) ?_
 ·
  obtain ⟨-, hst, -⟩ := hle
  refine StepOp_plain (op_move (v := (Value.func (.func 40) #[] #[])) (ht 1 rfl) ?_)
  exact Goes.same hi rfl
 refine Dw_op (VD O [(some b1, Obj.cells [(Value.slice none 0 0), (Value.slice none 0 0), (Value.slice none 0 0), (Value.slice none 0 0), (Value.slice none 0 0), (Value.slice none 0 0), (Value.slice none 0 0), (Value.slice none 0 0)].toArray 31)] (vC (rSl (rInt .i64))) [1, 0]) (VD.stab _ _) (fun ρ114 w115 g hle hi ht => ?_) ?_
 ·
  obtain ⟨-, hst, -⟩ := hle
  replace F7 := F7.step hst
  refine StepOp_plain (op_buildSlice (cs := [(Value.int .i64 1), (Value.int .i64 0)]) (parts := [(0, .const (.int .i64 1)), (1, .const (.int .i64 0))]) ty39 ty3 hi (by decide) (by simp only [List.map, (show ev _ (.const (.int .i64 1)) = .int .i64 1 from rfl), (show ev _ (.const (.int .i64 0)) = .int .i64 0 from rfl)]; rfl) ?_)
  intro b117 w118 hx121 p119 hs120
  replace F7 := F7.step p119
  obtain ⟨hs123, p124, f125⟩ := St.publish (i := 0) (o := 0) (c := 2) (xs := [1, 0]) hs120 rfl (show Els (rInt .i64) _ _ [(Value.int .i64 1), (Value.int .i64 0)] [1, 0] from ⟨_, _, rfl, (mk_int (show InK .i64 1 from by decide)), ⟨_, _, rfl, (mk_int (show InK .i64 0 from by decide)), Els.nil⟩⟩) (le_lit rfl) (le_lit rfl) (le_lit rfl)
  exact Goes.pub hi hs123 (Step.trans p119 p124) hx121 (show Vr.vd (vC (rSl (rInt .i64))) _ _ _ _ from mkC (mk_sl f125))
 replace hm := bd hm; obtain ⟨r_4, hv132, hm⟩ := hm
 refine Dw_op (VD O [(some b1, Obj.cells [(Value.slice none 0 0), (Value.slice none 0 0), (Value.slice none 0 0), (Value.slice none 0 0), (Value.slice none 0 0), (Value.slice none 0 0), (Value.slice none 0 0), (Value.slice none 0 0)].toArray 31)] (vA rXSector) r_4) (VD.stab _ _) (fun ρ126 w127 g hle hi ht => ?_) ?_
 ·
  obtain ⟨-, hst, -⟩ := hle
  replace F7 := F7.step hst
  have h129 : Vr.vd (vC (rSl (rInt .i64))) _ _ _ _ := ht 13 rfl
  obtain ⟨a_y131, c_y131, q130, f_y131⟩ := un_sl h129
  refine StepOp_plain (op_callF (ht 12 rfl) (F7.call hi.ltw (mkC (mk_sl f_y131)) hv132) (by simp only [List.map, Array.toList, (show ev _ (.tmp 13) = _ from q130)] <;> rfl) ?_)
  rintro v133 w134 ⟨hx135, h136⟩
  exact Goes.call hi hx135 h136
 refine Dw_eq (Value.func (.func 40) #[] #[]) (fun ρ138 w139 g hle hi ht => ?_) ?_
 ·
  obtain ⟨-, hst, -⟩ := hle
  refine StepOp_plain (op_move (v := (Value.func (.func 40) #[] #[])) (ht 1 rfl) ?_)
  exact Goes.same hi rfl
 refine Dw_op (VD O [(some b1, Obj.cells [(Value.slice none 0 0), (Value.slice none 0 0), (Value.slice none 0 0), (Value.slice none 0 0), (Value.slice none 0 0), (Value.slice none 0 0), (Value.slice none 0 0), (Value.slice none 0 0)].toArray 31)] (vC (rSl (rInt .i64))) [2, 1, 0]) (VD.stab _ _) (fun ρ141 w142 g hle hi ht => ?_) ?_
 ·
  obtain ⟨-, hst, -⟩ := hle
  replace F7 := F7.step hst
  refine StepOp_plain (op_buildSlice (cs := [(Value.int .i64 2), (Value.int .i64 1), (Value.int .i64 0)]) (parts := [(0, .const (.int .i64 2)), (1, .const (.int .i64 1)), (2, .const (.int .i64 0))]) ty39 ty3 hi (by decide) (by simp only [List.map, (show ev _ (.const (.int .i64 2)) = .int .i64 2 from rfl), (show ev _ (.const (.int .i64 1)) = .int .i64 1 from rfl), (show ev _ (.const (.int .i64 0)) = .int .i64 0 from rfl)]; rfl) ?_)
  intro b144 w145 hx148 p146 hs147
  replace F7 := F7.step p146
  obtain ⟨hs150, p151, f152⟩ := St.publish (i := 0) (o := 0) (c := 3) (xs := [2, 1, 0]) hs147 rfl (show Els (rInt .i64) _ _ [(Value.int .i64 2), (Value.int .i64 1), (Value.int .i64 0)] [2, 1, 0] from ⟨_, _, rfl, (mk_int (show InK .i64 2 from by decide)), ⟨_, _, rfl, (mk_int (show InK .i64 1 from by decide)), ⟨_, _, rfl, (mk_int (show InK .i64 0 from by decide)), Els.nil⟩⟩⟩) (le_lit rfl) (le_lit rfl) (le_lit rfl)
  exact Goes.pub hi hs150 (Step.trans p146 p151) hx148 (show Vr.vd (vC (rSl (rInt .i64))) _ _ _ _ from mkC (mk_sl f152))
 replace hm := bd hm; obtain ⟨r_5, hv159, hm⟩ := hm
 refine Dw_op (VD O [(some b1, Obj.cells [(Value.slice none 0 0), (Value.slice none 0 0), (Value.slice none 0 0), (Value.slice none 0 0), (Value.slice none 0 0), (Value.slice none 0 0), (Value.slice none 0 0), (Value.slice none 0 0)].toArray 31)] (vA rXSector) r_5) (VD.stab _ _) (fun ρ153 w154 g hle hi ht => ?_) ?_
 ·
  obtain ⟨-, hst, -⟩ := hle
  replace F7 := F7.step hst
  have h156 : Vr.vd (vC (rSl (rInt .i64))) _ _ _ _ := ht 16 rfl
  obtain ⟨a_y158, c_y158, q157, f_y158⟩ := un_sl h156
  refine StepOp_plain (op_callF (ht 15 rfl) (F7.call hi.ltw (mkC (mk_sl f_y158)) hv159) (by simp only [List.map, Array.toList, (show ev _ (.tmp 16) = _ from q157)] <;> rfl) ?_)
  rintro v160 w161 ⟨hx162, h163⟩
  exact Goes.call hi hx162 h163
 refine Dw_op (VD O [(some b1, Obj.cells [(Value.slice none 0 0), (Value.slice none 0 0), (Value.slice none 0 0), (Value.slice none 0 0), (Value.slice none 0 0), (Value.slice none 0 0), (Value.slice none 0 0), (Value.slice none 0 0)].toArray 31)] (vC (rSl rXSector)) [r_1, r_2, r_3, r_4, r_5]) (VD.stab _ _) (fun ρ165 w166 g hle hi ht => ?_) ?_
 ·
  obtain ⟨-, hst, -⟩ := hle
  replace F7 := F7.step hst
  have h168 : Vr.vd (vA rXSector) _ _ _ _ := ht 5 rfl
  obtain ⟨_, q169, ⟨_, _, rfl, rfl, ⟨_, _, rfl, ⟨a_y170_names, c_y170_names, rfl, f_y170_names⟩, ⟨_, _, rfl, ⟨a_y170_volumes, c_y170_volumes, rfl, f_y170_volumes⟩, ⟨_, _, rfl, ⟨rfl, r_y170_radar⟩, ⟨rfl, r_y170_procedural⟩⟩⟩⟩⟩⟩ := h168
  have h171 : Vr.vd (vA rXSector) _ _ _ _ := ht 8 rfl
  obtain ⟨_, q172, ⟨_, _, rfl, rfl, ⟨_, _, rfl, ⟨a_y173_names, c_y173_names, rfl, f_y173_names⟩, ⟨_, _, rfl, ⟨a_y173_volumes, c_y173_volumes, rfl, f_y173_volumes⟩, ⟨_, _, rfl, ⟨rfl, r_y173_radar⟩, ⟨rfl, r_y173_procedural⟩⟩⟩⟩⟩⟩ := h171
  have h174 : Vr.vd (vA rXSector) _ _ _ _ := ht 11 rfl
  obtain ⟨_, q175, ⟨_, _, rfl, rfl, ⟨_, _, rfl, ⟨a_y176_names, c_y176_names, rfl, f_y176_names⟩, ⟨_, _, rfl, ⟨a_y176_volumes, c_y176_volumes, rfl, f_y176_volumes⟩, ⟨_, _, rfl, ⟨rfl, r_y176_radar⟩, ⟨rfl, r_y176_procedural⟩⟩⟩⟩⟩⟩ := h174
  have h177 : Vr.vd (vA rXSector) _ _ _ _ := ht 14 rfl
  obtain ⟨_, q178, ⟨_, _, rfl, rfl, ⟨_, _, rfl, ⟨a_y179_names, c_y179_names, rfl, f_y179_names⟩, ⟨_, _, rfl, ⟨a_y179_volumes, c_y179_volumes, rfl, f_y179_volumes⟩, ⟨_, _, rfl, ⟨rfl, r_y179_radar⟩, ⟨rfl, r_y179_procedural⟩⟩⟩⟩⟩⟩ := h177
  have h180 : Vr.vd (vA rXSector) _ _ _ _ := ht 17 rfl
  obtain ⟨_, q181, ⟨_, _, rfl, rfl, ⟨_, _, rfl, ⟨a_y182_names, c_y182_names, rfl, f_y182_names⟩, ⟨_, _, rfl, ⟨a_y182_volumes, c_y182_volumes, rfl, f_y182_volumes⟩, ⟨_, _, rfl, ⟨rfl, r_y182_radar⟩, ⟨rfl, r_y182_procedural⟩⟩⟩⟩⟩⟩ := h180
  refine StepOp_plain (op_buildSlice (cs := [(Value.string (bs r_1.name)), (Value.slice a_y170_names r_1.names.length c_y170_names), (Value.slice a_y170_volumes r_1.volumes.length c_y170_volumes), (Value.int .i64 r_1.radar), (Value.int .i64 r_1.procedural), (Value.string (bs r_2.name)), (Value.slice a_y173_names r_2.names.length c_y173_names), (Value.slice a_y173_volumes r_2.volumes.length c_y173_volumes), (Value.int .i64 r_2.radar), (Value.int .i64 r_2.procedural), (Value.string (bs r_3.name)), (Value.slice a_y176_names r_3.names.length c_y176_names), (Value.slice a_y176_volumes r_3.volumes.length c_y176_volumes), (Value.int .i64 r_3.radar), (Value.int .i64 r_3.procedural), (Value.string (bs r_4.name)), (Value.slice a_y179_names r_4.names.length c_y179_names), (Value.slice a_y179_volumes r_4.volumes.length c_y179_volumes), (Value.int .i64 r_4.radar), (Value.int .i64 r_4.procedural), (Value.string (bs r_5.name)), (Value.slice a_y182_names r_5.names.length c_y182_names), (Value.slice a_y182_volumes r_5.volumes.length c_y182_volumes), (Value.int .i64 r_5.radar), (Value.int .i64 r_5.procedural)]) (parts := [(0, .tmp 5), (1, .tmp 8), (2, .tmp 11), (3, .tmp 14), (4, .tmp 17)]) ty23 ty50 hi (by decide) (by simp only [List.map, (show ev _ (.tmp 5) = _ from q169), (show ev _ (.tmp 8) = _ from q172), (show ev _ (.tmp 11) = _ from q175), (show ev _ (.tmp 14) = _ from q178), (show ev _ (.tmp 17) = _ from q181)]; rfl) ?_)
  intro b183 w184 hx187 p185 hs186
  replace F7 := F7.step p185; replace f_y170_names := f_y170_names.step p185; replace f_y170_volumes := f_y170_volumes.step p185; replace f_y173_names := f_y173_names.step p185; replace f_y173_volumes := f_y173_volumes.step p185; replace f_y176_names := f_y176_names.step p185; replace f_y176_volumes := f_y176_volumes.step p185; replace f_y179_names := f_y179_names.step p185; replace f_y179_volumes := f_y179_volumes.step p185; replace f_y182_names := f_y182_names.step p185; replace f_y182_volumes := f_y182_volumes.step p185
  obtain ⟨hs189, p190, f191⟩ := St.publish (i := 0) (o := 0) (c := 5) (xs := [r_1, r_2, r_3, r_4, r_5]) hs186 rfl (show Els rXSector _ _ [(Value.string (bs r_1.name)), (Value.slice a_y170_names r_1.names.length c_y170_names), (Value.slice a_y170_volumes r_1.volumes.length c_y170_volumes), (Value.int .i64 r_1.radar), (Value.int .i64 r_1.procedural), (Value.string (bs r_2.name)), (Value.slice a_y173_names r_2.names.length c_y173_names), (Value.slice a_y173_volumes r_2.volumes.length c_y173_volumes), (Value.int .i64 r_2.radar), (Value.int .i64 r_2.procedural), (Value.string (bs r_3.name)), (Value.slice a_y176_names r_3.names.length c_y176_names), (Value.slice a_y176_volumes r_3.volumes.length c_y176_volumes), (Value.int .i64 r_3.radar), (Value.int .i64 r_3.procedural), (Value.string (bs r_4.name)), (Value.slice a_y179_names r_4.names.length c_y179_names), (Value.slice a_y179_volumes r_4.volumes.length c_y179_volumes), (Value.int .i64 r_4.radar), (Value.int .i64 r_4.procedural), (Value.string (bs r_5.name)), (Value.slice a_y182_names r_5.names.length c_y182_names), (Value.slice a_y182_volumes r_5.volumes.length c_y182_volumes), (Value.int .i64 r_5.radar), (Value.int .i64 r_5.procedural)] [r_1, r_2, r_3, r_4, r_5] from ⟨_, _, rfl, (mkVia (mk_pair mkStr (mk_pair (mk_sl f_y170_names) (mk_pair (mk_sl f_y170_volumes) (mk_pair (mk_int r_y170_radar) (mk_int r_y170_procedural)))))), ⟨_, _, rfl, (mkVia (mk_pair mkStr (mk_pair (mk_sl f_y173_names) (mk_pair (mk_sl f_y173_volumes) (mk_pair (mk_int r_y173_radar) (mk_int r_y173_procedural)))))), ⟨_, _, rfl, (mkVia (mk_pair mkStr (mk_pair (mk_sl f_y176_names) (mk_pair (mk_sl f_y176_volumes) (mk_pair (mk_int r_y176_radar) (mk_int r_y176_procedural)))))), ⟨_, _, rfl, (mkVia (mk_pair mkStr (mk_pair (mk_sl f_y179_names) (mk_pair (mk_sl f_y179_volumes) (mk_pair (mk_int r_y179_radar) (mk_int r_y179_procedural)))))), ⟨_, _, rfl, (mkVia (mk_pair mkStr (mk_pair (mk_sl f_y182_names) (mk_pair (mk_sl f_y182_volumes) (mk_pair (mk_int r_y182_radar) (mk_int r_y182_procedural)))))), Els.nil⟩⟩⟩⟩⟩) (le_lit rfl) (le_lit rfl) (le_lit rfl)
  exact Goes.pub hi hs189 (Step.trans p185 p190) hx187 (show Vr.vd (vC (rSl rXSector)) _ _ _ _ from mkC (mk_sl f191))
 refine Dw_op (VD O [(some b1, Obj.cells [(Value.slice none 0 0), (Value.slice none 0 0), (Value.slice none 0 0), (Value.slice none 0 0), (Value.slice none 0 0), (Value.slice none 0 0), (Value.slice none 0 0), (Value.slice none 0 0)].toArray 31)] (vC (rSl (rInt .i64))) [4]) (VD.stab _ _) (fun ρ192 w193 g hle hi ht => ?_) ?_
 ·
  obtain ⟨-, hst, -⟩ := hle
  replace F7 := F7.step hst
  refine StepOp_plain (op_buildSlice (cs := [(Value.int .i64 4)]) (parts := [(0, .const (.int .i64 4))]) ty39 ty3 hi (by decide) (by simp only [List.map, (show ev _ (.const (.int .i64 4)) = .int .i64 4 from rfl)]; rfl) ?_)
  intro b195 w196 hx199 p197 hs198
  replace F7 := F7.step p197
  obtain ⟨hs201, p202, f203⟩ := St.publish (i := 0) (o := 0) (c := 1) (xs := [4]) hs198 rfl (show Els (rInt .i64) _ _ [(Value.int .i64 4)] [4] from ⟨_, _, rfl, (mk_int (show InK .i64 4 from by decide)), Els.nil⟩) (le_lit rfl) (le_lit rfl) (le_lit rfl)
  exact Goes.pub hi hs201 (Step.trans p197 p202) hx199 (show Vr.vd (vC (rSl (rInt .i64))) _ _ _ _ from mkC (mk_sl f203))
 refine Dw_op (VD O [(some b1, Obj.cells [(Value.slice none 0 0), (Value.slice none 0 0), (Value.slice none 0 0), (Value.slice none 0 0), (Value.slice none 0 0), (Value.slice none 0 0), (Value.slice none 0 0), (Value.slice none 0 0)].toArray 31)] (vA rXConfig) (⟨[], ([] : List (List UInt8)), [4]⟩ : XConfig)) (VD.stab _ _) (fun ρ204 w205 g hle hi ht => ?_) ?_
 ·
  obtain ⟨-, hst, -⟩ := hle
  have h207 : Vr.vd (vC (rSl (rInt .i64))) _ _ _ _ := ht 19 rfl
  obtain ⟨a_y209, c_y209, q208, f_y209⟩ := un_sl h207
  refine StepOp_plain (op_build (vs := [(Value.string (bs [])), (Value.slice none 0 0), (Value.slice a_y209 [4].length c_y209)]) (parts := [(2, .tmp 19)]) ty52 pl52 (by simp only [List.map, (show ev _ (.tmp 19) = _ from q208)]; rfl) ?_)
  exact Goes.same hi (show Vr.vd (vA rXConfig) _ _ _ _ from (mkA (mkVia (mk_pair mkStr (mk_pair (mk_sl SlR.nil_) (mk_sl f_y209))))))
 refine Dw_op (VD O [(some b1, Obj.cells [(Value.slice none 0 0), (Value.slice none 0 0), (Value.slice none 0 0), (Value.slice none 0 0), (Value.slice none 0 0), (Value.slice none 0 0), (Value.slice none 0 0), (Value.slice none 0 0)].toArray 31)] (vC (rSl (rInt .i64))) [0, 1, 2]) (VD.stab _ _) (fun ρ210 w211 g hle hi ht => ?_) ?_
 ·
  obtain ⟨-, hst, -⟩ := hle
  replace F7 := F7.step hst
  refine StepOp_plain (op_buildSlice (cs := [(Value.int .i64 0), (Value.int .i64 1), (Value.int .i64 2)]) (parts := [(0, .const (.int .i64 0)), (1, .const (.int .i64 1)), (2, .const (.int .i64 2))]) ty39 ty3 hi (by decide) (by simp only [List.map, (show ev _ (.const (.int .i64 0)) = .int .i64 0 from rfl), (show ev _ (.const (.int .i64 1)) = .int .i64 1 from rfl), (show ev _ (.const (.int .i64 2)) = .int .i64 2 from rfl)]; rfl) ?_)
  intro b213 w214 hx217 p215 hs216
  replace F7 := F7.step p215
  obtain ⟨hs219, p220, f221⟩ := St.publish (i := 0) (o := 0) (c := 3) (xs := [0, 1, 2]) hs216 rfl (show Els (rInt .i64) _ _ [(Value.int .i64 0), (Value.int .i64 1), (Value.int .i64 2)] [0, 1, 2] from ⟨_, _, rfl, (mk_int (show InK .i64 0 from by decide)), ⟨_, _, rfl, (mk_int (show InK .i64 1 from by decide)), ⟨_, _, rfl, (mk_int (show InK .i64 2 from by decide)), Els.nil⟩⟩⟩) (le_lit rfl) (le_lit rfl) (le_lit rfl)
  exact Goes.pub hi hs219 (Step.trans p215 p220) hx217 (show Vr.vd (vC (rSl (rInt .i64))) _ _ _ _ from mkC (mk_sl f221))
 refine Dw_op (VD O [(some b1, Obj.cells [(Value.slice none 0 0), (Value.slice none 0 0), (Value.slice none 0 0), (Value.slice none 0 0), (Value.slice none 0 0), (Value.slice none 0 0), (Value.slice none 0 0), (Value.slice none 0 0)].toArray 31)] (vA rXConfig) (⟨[], ([] : List (List UInt8)), [0, 1, 2]⟩ : XConfig)) (VD.stab _ _) (fun ρ222 w223 g hle hi ht => ?_) ?_
 ·
  obtain ⟨-, hst, -⟩ := hle
  have h225 : Vr.vd (vC (rSl (rInt .i64))) _ _ _ _ := ht 21 rfl
  obtain ⟨a_y227, c_y227, q226, f_y227⟩ := un_sl h225
  refine StepOp_plain (op_build (vs := [(Value.string (bs [])), (Value.slice none 0 0), (Value.slice a_y227 [0, 1, 2].length c_y227)]) (parts := [(2, .tmp 21)]) ty52 pl52 (by simp only [List.map, (show ev _ (.tmp 21) = _ from q226)]; rfl) ?_)
  exact Goes.same hi (show Vr.vd (vA rXConfig) _ _ _ _ from (mkA (mkVia (mk_pair mkStr (mk_pair (mk_sl SlR.nil_) (mk_sl f_y227))))))
 refine Dw_op (VD O [(some b1, Obj.cells [(Value.slice none 0 0), (Value.slice none 0 0), (Value.slice none 0 0), (Value.slice none 0 0), (Value.slice none 0 0), (Value.slice none 0 0), (Value.slice none 0 0), (Value.slice none 0 0)].toArray 31)] (vC (rSl (rInt .i64))) [2, 3]) (VD.stab _ _) (fun ρ228 w229 g hle hi ht => ?_) ?_
 ·
  obtain ⟨-, hst, -⟩ := hle
  replace F7 := F7.step hst
  refine StepOp_plain (op_buildSlice (cs := [(Value.int .i64 2), (Value.int .i64 3)]) (parts := [(0, .const (.int .i64 2)), (1, .const (.int .i64 3))]) ty39 ty3 hi (by decide) (by simp only [List.map, (show ev _ (.const (.int .i64 2)) = .int .i64 2 from rfl), (show ev _ (.const (.int .i64 3)) = .int .i64 3 from rfl)]; rfl) ?_)
  intro b231 w232 hx235 p233 hs234
  replace F7 := F7.step p233
  obtain ⟨hs237, p238, f239⟩ := St.publish (i := 0) (o := 0) (c := 2) (xs := [2, 3]) hs234 rfl (show Els (rInt .i64) _ _ [(Value.int .i64 2), (Value.int .i64 3)] [2, 3] from ⟨_, _, rfl, (mk_int (show InK .i64 2 from by decide)), ⟨_, _, rfl, (mk_int (show InK .i64 3 from by decide)), Els.nil⟩⟩) (le_lit rfl) (le_lit rfl) (le_lit rfl)
  exact Goes.pub hi hs237 (Step.trans p233 p238) hx235 (show Vr.vd (vC (rSl (rInt .i64))) _ _ _ _ from mkC (mk_sl f239))
 refine Dw_op (VD O [(some b1, Obj.cells [(Value.slice none 0 0), (Value.slice none 0 0), (Value.slice none 0 0), (Value.slice none 0 0), (Value.slice none 0 0), (Value.slice none 0 0), (Value.slice none 0 0), (Value.slice none 0 0)].toArray 31)] (vA rXConfig) (⟨[], ([] : List (List UInt8)), [2, 3]⟩ : XConfig)) (VD.stab _ _) (fun ρ240 w241 g hle hi ht => ?_) ?_
 ·
  obtain ⟨-, hst, -⟩ := hle
  have h243 : Vr.vd (vC (rSl (rInt .i64))) _ _ _ _ := ht 23 rfl
  obtain ⟨a_y245, c_y245, q244, f_y245⟩ := un_sl h243
  refine StepOp_plain (op_build (vs := [(Value.string (bs [])), (Value.slice none 0 0), (Value.slice a_y245 [2, 3].length c_y245)]) (parts := [(2, .tmp 23)]) ty52 pl52 (by simp only [List.map, (show ev _ (.tmp 23) = _ from q244)]; rfl) ?_)
  exact Goes.same hi (show Vr.vd (vA rXConfig) _ _ _ _ from (mkA (mkVia (mk_pair mkStr (mk_pair (mk_sl SlR.nil_) (mk_sl f_y245))))))
 refine Dw_op (VD O [(some b1, Obj.cells [(Value.slice none 0 0), (Value.slice none 0 0), (Value.slice none 0 0), (Value.slice none 0 0), (Value.slice none 0 0), (Value.slice none 0 0), (Value.slice none 0 0), (Value.slice none 0 0)].toArray 31)] (vC (rSl rXConfig)) [(⟨[], ([] : List (List UInt8)), [4]⟩ : XConfig), (⟨[], ([] : List (List UInt8)), [0, 1, 2]⟩ : XConfig), (⟨[], ([] : List (List UInt8)), [2, 3]⟩ : XConfig)]) (VD.stab _ _) (fun ρ246 w247 g hle hi ht => ?_) ?_
 ·
  obtain ⟨-, hst, -⟩ := hle
  replace F7 := F7.step hst
  have h249 : Vr.vd (vA rXConfig) _ _ _ _ := ht 20 rfl
  obtain ⟨_, q250, ⟨_, _, rfl, rfl, ⟨_, _, rfl, ⟨a_y251_names, c_y251_names, rfl, f_y251_names⟩, ⟨a_y251_sectors, c_y251_sectors, rfl, f_y251_sectors⟩⟩⟩⟩ := h249
  have h252 : Vr.vd (vA rXConfig) _ _ _ _ := ht 22 rfl
  obtain ⟨_, q253, ⟨_, _, rfl, rfl, ⟨_, _, rfl, ⟨a_y254_names, c_y254_names, rfl, f_y254_names⟩, ⟨a_y254_sectors, c_y254_sectors, rfl, f_y254_sectors⟩⟩⟩⟩ := h252
  have h255 : Vr.vd (vA rXConfig) _ _ _ _ := ht 24 rfl
  obtain ⟨_, q256, ⟨_, _, rfl, rfl, ⟨_, _, rfl, ⟨a_y257_names, c_y257_names, rfl, f_y257_names⟩, ⟨a_y257_sectors, c_y257_sectors, rfl, f_y257_sectors⟩⟩⟩⟩ := h255
  refine StepOp_plain (op_buildSlice (cs := [(Value.string (bs ((⟨[], ([] : List (List UInt8)), [4]⟩ : XConfig).name))), (Value.slice a_y251_names ((⟨[], ([] : List (List UInt8)), [4]⟩ : XConfig).names).length c_y251_names), (Value.slice a_y251_sectors ((⟨[], ([] : List (List UInt8)), [4]⟩ : XConfig).sectors).length c_y251_sectors), (Value.string (bs ((⟨[], ([] : List (List UInt8)), [0, 1, 2]⟩ : XConfig).name))), (Value.slice a_y254_names ((⟨[], ([] : List (List UInt8)), [0, 1, 2]⟩ : XConfig).names).length c_y254_names), (Value.slice a_y254_sectors ((⟨[], ([] : List (List UInt8)), [0, 1, 2]⟩ : XConfig).sectors).length c_y254_sectors), (Value.string (bs ((⟨[], ([] : List (List UInt8)), [2, 3]⟩ : XConfig).name))), (Value.slice a_y257_names ((⟨[], ([] : List (List UInt8)), [2, 3]⟩ : XConfig).names).length c_y257_names), (Value.slice a_y257_sectors ((⟨[], ([] : List (List UInt8)), [2, 3]⟩ : XConfig).sectors).length c_y257_sectors)]) (parts := [(0, .tmp 20), (1, .tmp 22), (2, .tmp 24)]) ty24 ty52 hi (by decide) (by simp only [List.map, (show ev _ (.tmp 20) = _ from q250), (show ev _ (.tmp 22) = _ from q253), (show ev _ (.tmp 24) = _ from q256)]; rfl) ?_)
  intro b258 w259 hx262 p260 hs261
  replace F7 := F7.step p260; replace f_y251_names := f_y251_names.step p260; replace f_y251_sectors := f_y251_sectors.step p260; replace f_y254_names := f_y254_names.step p260; replace f_y254_sectors := f_y254_sectors.step p260; replace f_y257_names := f_y257_names.step p260; replace f_y257_sectors := f_y257_sectors.step p260
  obtain ⟨hs264, p265, f266⟩ := St.publish (i := 0) (o := 0) (c := 3) (xs := [(⟨[], ([] : List (List UInt8)), [4]⟩ : XConfig), (⟨[], ([] : List (List UInt8)), [0, 1, 2]⟩ : XConfig), (⟨[], ([] : List (List UInt8)), [2, 3]⟩ : XConfig)]) hs261 rfl (show Els rXConfig _ _ [(Value.string (bs ((⟨[], ([] : List (List UInt8)), [4]⟩ : XConfig).name))), (Value.slice a_y251_names ((⟨[], ([] : List (List UInt8)), [4]⟩ : XConfig).names).length c_y251_names), (Value.slice a_y251_sectors ((⟨[], ([] : List (List UInt8)), [4]⟩ : XConfig).sectors).length c_y251_sectors), (Value.string (bs ((⟨[], ([] : List (List UInt8)), [0, 1, 2]⟩ : XConfig).name))), (Value.slice a_y254_names ((⟨[], ([] : List (List UInt8)), [0, 1, 2]⟩ : XConfig).names).length c_y254_names), (Value.slice a_y254_sectors ((⟨[], ([] : List (List UInt8)), [0, 1, 2]⟩ : XConfig).sectors).length c_y254_sectors), (Value.string (bs ((⟨[], ([] : List (List UInt8)), [2, 3]⟩ : XConfig).name))), (Value.slice a_y257_names ((⟨[], ([] : List (List UInt8)), [2, 3]⟩ : XConfig).names).length c_y257_names), (Value.slice a_y257_sectors ((⟨[], ([] : List (List UInt8)), [2, 3]⟩ : XConfig).sectors).length c_y257_sectors)] [(⟨[], ([] : List (List UInt8)), [4]⟩ : XConfig), (⟨[], ([] : List (List UInt8)), [0, 1, 2]⟩ : XConfig), (⟨[], ([] : List (List UInt8)), [2, 3]⟩ : XConfig)] from ⟨_, _, rfl, (mkVia (mk_pair mkStr (mk_pair (mk_sl f_y251_names) (mk_sl f_y251_sectors)))), ⟨_, _, rfl, (mkVia (mk_pair mkStr (mk_pair (mk_sl f_y254_names) (mk_sl f_y254_sectors)))), ⟨_, _, rfl, (mkVia (mk_pair mkStr (mk_pair (mk_sl f_y257_names) (mk_sl f_y257_sectors)))), Els.nil⟩⟩⟩) (le_lit rfl) (le_lit rfl) (le_lit rfl)
  exact Goes.pub hi hs264 (Step.trans p260 p265) hx262 (show Vr.vd (vC (rSl rXConfig)) _ _ _ _ from mkC (mk_sl f266))
 refine Dw_nil fun w271 g272 hl273 hi274 => ?_
 obtain ⟨-, hst275, -⟩ := hl273
 obtain ⟨hs277, p276⟩ := Step.nx hi274
 rintro v278 h279
 replace h279 : Vr.vd (vC (rSl rXConfig)) _ _ _ _ := h279
 obtain ⟨a_y280, c_y280, rfl, f_y280⟩ := un_sl h279
 rintro v281 h282
 replace h282 : Vr.vd (vA rXConfig) _ _ _ _ := h282
 obtain ⟨_, rfl, ⟨_, _, rfl, rfl, ⟨_, _, rfl, ⟨a_y283_names, c_y283_names, rfl, f_y283_names⟩, ⟨a_y283_sectors, c_y283_sectors, rfl, f_y283_sectors⟩⟩⟩⟩ := h282
 rintro v284 h285
 replace h285 : Vr.vd (vC (rSl (rInt .i64))) _ _ _ _ := h285
 obtain ⟨a_y286, c_y286, rfl, f_y286⟩ := un_sl h285
 rintro v287 h288
 replace h288 : Vr.vd (vA rXConfig) _ _ _ _ := h288
 obtain ⟨_, rfl, ⟨_, _, rfl, rfl, ⟨_, _, rfl, ⟨a_y289_names, c_y289_names, rfl, f_y289_names⟩, ⟨a_y289_sectors, c_y289_sectors, rfl, f_y289_sectors⟩⟩⟩⟩ := h288
 rintro v290 h291
 replace h291 : Vr.vd (vC (rSl (rInt .i64))) _ _ _ _ := h291
 obtain ⟨a_y292, c_y292, rfl, f_y292⟩ := un_sl h291
 rintro v293 h294
 replace h294 : Vr.vd (vA rXConfig) _ _ _ _ := h294
 obtain ⟨_, rfl, ⟨_, _, rfl, rfl, ⟨_, _, rfl, ⟨a_y295_names, c_y295_names, rfl, f_y295_names⟩, ⟨a_y295_sectors, c_y295_sectors, rfl, f_y295_sectors⟩⟩⟩⟩ := h294
 rintro v296 h297
 replace h297 : Vr.vd (vC (rSl (rInt .i64))) _ _ _ _ := h297
 obtain ⟨a_y298, c_y298, rfl, f_y298⟩ := un_sl h297
 rintro v299 h300
 replace h300 : Vr.vd (vC (rSl rXSector)) _ _ _ _ := h300
 obtain ⟨a_y301, c_y301, rfl, f_y301⟩ := un_sl h300
 rintro v302 h303
 replace h303 : Vr.vd (vA rXSector) _ _ _ _ := h303
 obtain ⟨_, rfl, ⟨_, _, rfl, rfl, ⟨_, _, rfl, ⟨a_y304_names, c_y304_names, rfl, f_y304_names⟩, ⟨_, _, rfl, ⟨a_y304_volumes, c_y304_volumes, rfl, f_y304_volumes⟩, ⟨_, _, rfl, ⟨rfl, r_y304_radar⟩, ⟨rfl, r_y304_procedural⟩⟩⟩⟩⟩⟩ := h303
 rintro v305 h306
 replace h306 : Vr.vd (vC (rSl (rInt .i64))) _ _ _ _ := h306
 obtain ⟨a_y307, c_y307, rfl, f_y307⟩ := un_sl h306
 rintro _ rfl
 rintro v308 h309
 replace h309 : Vr.vd (vA rXSector) _ _ _ _ := h309
 obtain ⟨_, rfl, ⟨_, _, rfl, rfl, ⟨_, _, rfl, ⟨a_y310_names, c_y310_names, rfl, f_y310_names⟩, ⟨_, _, rfl, ⟨a_y310_volumes, c_y310_volumes, rfl, f_y310_volumes⟩, ⟨_, _, rfl, ⟨rfl, r_y310_radar⟩, ⟨rfl, r_y310_procedural⟩⟩⟩⟩⟩⟩ := h309
 rintro v311 h312
 replace h312 : Vr.vd (vC (rSl (rInt .i64))) _ _ _ _ := h312
 obtain ⟨a_y313, c_y313, rfl, f_y313⟩ := un_sl h312
 rintro _ rfl
 rintro v314 h315
 replace h315 : Vr.vd (vA rXSector) _ _ _ _ := h315
 obtain ⟨_, rfl, ⟨_, _, rfl, rfl, ⟨_, _, rfl, ⟨a_y316_names, c_y316_names, rfl, f_y316_names⟩, ⟨_, _, rfl, ⟨a_y316_volumes, c_y316_volumes, rfl, f_y316_volumes⟩, ⟨_, _, rfl, ⟨rfl, r_y316_radar⟩, ⟨rfl, r_y316_procedural⟩⟩⟩⟩⟩⟩ := h315
 rintro v317 h318
 replace h318 : Vr.vd (vC (rSl (rInt .i64))) _ _ _ _ := h318
 obtain ⟨a_y319, c_y319, rfl, f_y319⟩ := un_sl h318
 rintro _ rfl
 rintro v320 h321
 replace h321 : Vr.vd (vA rXSector) _ _ _ _ := h321
 obtain ⟨_, rfl, ⟨_, _, rfl, rfl, ⟨_, _, rfl, ⟨a_y322_names, c_y322_names, rfl, f_y322_names⟩, ⟨_, _, rfl, ⟨a_y322_volumes, c_y322_volumes, rfl, f_y322_volumes⟩, ⟨_, _, rfl, ⟨rfl, r_y322_radar⟩, ⟨rfl, r_y322_procedural⟩⟩⟩⟩⟩⟩ := h321
 rintro v323 h324
 replace h324 : Vr.vd (vC (rSl (rInt .i64))) _ _ _ _ := h324
 obtain ⟨a_y325, c_y325, rfl, f_y325⟩ := un_sl h324
 rintro _ rfl
 rintro v326 h327
 replace h327 : Vr.vd (vA rXSector) _ _ _ _ := h327
 obtain ⟨_, rfl, ⟨_, _, rfl, rfl, ⟨_, _, rfl, ⟨a_y328_names, c_y328_names, rfl, f_y328_names⟩, ⟨_, _, rfl, ⟨a_y328_volumes, c_y328_volumes, rfl, f_y328_volumes⟩, ⟨_, _, rfl, ⟨rfl, r_y328_radar⟩, ⟨rfl, r_y328_procedural⟩⟩⟩⟩⟩⟩ := h327
 rintro v329 h330
 replace h330 : Vr.vd (vC (rSl (rInt .i64))) _ _ _ _ := h330
 obtain ⟨a_y331, c_y331, rfl, f_y331⟩ := un_sl h330
 rintro _ rfl
 rintro v332 h333
 replace h333 : Vr.vd (vC (rSl rXVolume)) _ _ _ _ := h333
 obtain ⟨a_y334, c_y334, rfl, f_y334⟩ := un_sl h333
 have p335 : Step (ks [(some b1, Obj.cells [(Value.slice none 0 0), (Value.slice none 0 0), (Value.slice none 0 0), (Value.slice none 0 0), (Value.slice none 0 0), (Value.slice none 0 0), (Value.slice none 0 0), (Value.slice none 0 0)].toArray 31)] O) w2 (ks [(some b1, Obj.cells [(Value.slice none 0 0), (Value.slice none 0 0), (Value.slice none 0 0), (Value.slice none 0 0), (Value.slice none 0 0), (Value.slice none 0 0), (Value.slice none 0 0), (Value.slice none 0 0)].toArray 31)] O) w271 := hst275.trans p276
 replace f_y280 := f_y280.step p276; replace f_y283_names := f_y283_names.step p276; replace f_y283_sectors := f_y283_sectors.step p276; replace f_y286 := f_y286.step p276; replace f_y289_names := f_y289_names.step p276; replace f_y289_sectors := f_y289_sectors.step p276; replace f_y292 := f_y292.step p276; replace f_y295_names := f_y295_names.step p276; replace f_y295_sectors := f_y295_sectors.step p276; replace f_y298 := f_y298.step p276; replace f_y301 := f_y301.step p276; replace f_y304_names := f_y304_names.step p276; replace f_y304_volumes := f_y304_volumes.step p276; replace f_y307 := f_y307.step p276; replace f_y310_names := f_y310_names.step p276; replace f_y310_volumes := f_y310_volumes.step p276; replace f_y313 := f_y313.step p276; replace f_y316_names := f_y316_names.step p276; replace f_y316_volumes := f_y316_volumes.step p276; replace f_y319 := f_y319.step p276; replace f_y322_names := f_y322_names.step p276; replace f_y322_volumes := f_y322_volumes.step p276; replace f_y325 := f_y325.step p276; replace f_y328_names := f_y328_names.step p276; replace f_y328_volumes := f_y328_volumes.step p276; replace f_y331 := f_y331.step p276; replace f_y334 := f_y334.step p276; replace F7 := F7.step p335; clear p335 hs4
 refine Rg_op rfl (op_build (vs := [(Value.slice a_y334 ([(⟨[], ([] : List XSpan)⟩ : XVolume), (⟨[], ([] : List XSpan)⟩ : XVolume), (⟨[], ([] : List XSpan)⟩ : XVolume)] : List XVolume).length c_y334), (Value.slice a_y301 [r_1, r_2, r_3, r_4, r_5].length c_y301), (Value.slice a_y280 [(⟨[], ([] : List (List UInt8)), [4]⟩ : XConfig), (⟨[], ([] : List (List UInt8)), [0, 1, 2]⟩ : XConfig), (⟨[], ([] : List (List UInt8)), [2, 3]⟩ : XConfig)].length c_y280), (Value.slice none 0 0), (Value.slice none 0 0), (Value.slice none 0 0), (Value.slice none 0 0), (Value.slice none 0 0)]) (parts := [(0, .tmp 2), (1, .tmp 18), (2, .tmp 25)]) ty31 pl31 rfl ?_)
 refine Rg_op_ (op_store (cs := [(Value.slice none 0 0), (Value.slice none 0 0), (Value.slice none 0 0), (Value.slice none 0 0), (Value.slice none 0 0), (Value.slice none 0 0), (Value.slice none 0 0), (Value.slice none 0 0)]) (vs := [(Value.slice a_y334 ([(⟨[], ([] : List XSpan)⟩ : XVolume), (⟨[], ([] : List XSpan)⟩ : XVolume), (⟨[], ([] : List XSpan)⟩ : XVolume)] : List XVolume).length c_y334), (Value.slice a_y301 [r_1, r_2, r_3, r_4, r_5].length c_y301), (Value.slice a_y280 [(⟨[], ([] : List (List UInt8)), [4]⟩ : XConfig), (⟨[], ([] : List (List UInt8)), [0, 1, 2]⟩ : XConfig), (⟨[], ([] : List (List UInt8)), [2, 3]⟩ : XConfig)].length c_y280), (Value.slice none 0 0), (Value.slice none 0 0), (Value.slice none 0 0), (Value.slice none 0 0), (Value.slice none 0 0)]) (cs' := [(Value.slice a_y334 ([(⟨[], ([] : List XSpan)⟩ : XVolume), (⟨[], ([] : List XSpan)⟩ : XVolume), (⟨[], ([] : List XSpan)⟩ : XVolume)] : List XVolume).length c_y334), (Value.slice a_y301 [r_1, r_2, r_3, r_4, r_5].length c_y301), (Value.slice a_y280 [(⟨[], ([] : List (List UInt8)), [4]⟩ : XConfig), (⟨[], ([] : List (List UInt8)), [0, 1, 2]⟩ : XConfig), (⟨[], ([] : List (List UInt8)), [2, 3]⟩ : XConfig)].length c_y280), (Value.slice none 0 0), (Value.slice none 0 0), (Value.slice none 0 0), (Value.slice none 0 0), (Value.slice none 0 0)]) (bs' := [(some b1, Obj.cells [(Value.slice a_y334 ([(⟨[], ([] : List XSpan)⟩ : XVolume), (⟨[], ([] : List XSpan)⟩ : XVolume), (⟨[], ([] : List XSpan)⟩ : XVolume)] : List XVolume).length c_y334), (Value.slice a_y301 [r_1, r_2, r_3, r_4, r_5].length c_y301), (Value.slice a_y280 [(⟨[], ([] : List (List UInt8)), [4]⟩ : XConfig), (⟨[], ([] : List (List UInt8)), [0, 1, 2]⟩ : XConfig), (⟨[], ([] : List (List UInt8)), [2, 3]⟩ : XConfig)].length c_y280), (Value.slice none 0 0), (Value.slice none 0 0), (Value.slice none 0 0), (Value.slice none 0 0), (Value.slice none 0 0)].toArray 31)]) (i := 0) ty31 hs277 rfl rfl rfl rfl rfl (le_lit rfl) rfl rfl rfl ?_)
 intro w336 p337 hs338
 replace F7 := F7.step p337; replace f_y280 := f_y280.step p337; replace f_y283_names := f_y283_names.step p337; replace f_y283_sectors := f_y283_sectors.step p337; replace f_y286 := f_y286.step p337; replace f_y289_names := f_y289_names.step p337; replace f_y289_sectors := f_y289_sectors.step p337; replace f_y292 := f_y292.step p337; replace f_y295_names := f_y295_names.step p337; replace f_y295_sectors := f_y295_sectors.step p337; replace f_y298 := f_y298.step p337; replace f_y301 := f_y301.step p337; replace f_y304_names := f_y304_names.step p337; replace f_y304_volumes := f_y304_volumes.step p337; replace f_y307 := f_y307.step p337; replace f_y310_names := f_y310_names.step p337; replace f_y310_volumes := f_y310_volumes.step p337; replace f_y313 := f_y313.step p337; replace f_y316_names := f_y316_names.step p337; replace f_y316_volumes := f_y316_volumes.step p337; replace f_y319 := f_y319.step p337; replace f_y322_names := f_y322_names.step p337; replace f_y322_volumes := f_y322_volumes.step p337; replace f_y325 := f_y325.step p337; replace f_y328_names := f_y328_names.step p337; replace f_y328_volumes := f_y328_volumes.step p337; replace f_y331 := f_y331.step p337; replace f_y334 := f_y334.step p337; clear p337 hs277
 refine Rg_nil ?_
 refine Wp_ret ?_
 have hz := step_all hs338
 replace F7 := F7.step hz; replace f_y280 := f_y280.step hz; replace f_y283_names := f_y283_names.step hz; replace f_y283_sectors := f_y283_sectors.step hz; replace f_y286 := f_y286.step hz; replace f_y289_names := f_y289_names.step hz; replace f_y289_sectors := f_y289_sectors.step hz; replace f_y292 := f_y292.step hz; replace f_y295_names := f_y295_names.step hz; replace f_y295_sectors := f_y295_sectors.step hz; replace f_y298 := f_y298.step hz; replace f_y301 := f_y301.step hz; replace f_y304_names := f_y304_names.step hz; replace f_y304_volumes := f_y304_volumes.step hz; replace f_y307 := f_y307.step hz; replace f_y310_names := f_y310_names.step hz; replace f_y310_volumes := f_y310_volumes.step hz; replace f_y313 := f_y313.step hz; replace f_y316_names := f_y316_names.step hz; replace f_y316_volumes := f_y316_volumes.step hz; replace f_y319 := f_y319.step hz; replace f_y322_names := f_y322_names.step hz; replace f_y322_volumes := f_y322_volumes.step hz; replace f_y325 := f_y325.step hz; replace f_y328_names := f_y328_names.step hz; replace f_y328_volumes := f_y328_volumes.step hz; replace f_y331 := f_y331.step hz; replace f_y334 := f_y334.step hz
 refine ⟨_, (show Closes [] _ _ from rfl), [(Value.agg [(Value.slice a_y334 ([(⟨[], ([] : List XSpan)⟩ : XVolume), (⟨[], ([] : List XSpan)⟩ : XVolume), (⟨[], ([] : List XSpan)⟩ : XVolume)] : List XVolume).length c_y334), (Value.slice a_y301 [r_1, r_2, r_3, r_4, r_5].length c_y301), (Value.slice a_y280 [(⟨[], ([] : List (List UInt8)), [4]⟩ : XConfig), (⟨[], ([] : List (List UInt8)), [0, 1, 2]⟩ : XConfig), (⟨[], ([] : List (List UInt8)), [2, 3]⟩ : XConfig)].length c_y280), (Value.slice none 0 0), (Value.slice none 0 0), (Value.slice none 0 0), (Value.slice none 0 0), (Value.slice none 0 0)].toArray)], ⟨resA (cs := [(Value.slice a_y334 ([(⟨[], ([] : List XSpan)⟩ : XVolume), (⟨[], ([] : List XSpan)⟩ : XVolume), (⟨[], ([] : List XSpan)⟩ : XVolume)] : List XVolume).length c_y334), (Value.slice a_y301 [r_1, r_2, r_3, r_4, r_5].length c_y301), (Value.slice a_y280 [(⟨[], ([] : List (List UInt8)), [4]⟩ : XConfig), (⟨[], ([] : List (List UInt8)), [0, 1, 2]⟩ : XConfig), (⟨[], ([] : List (List UInt8)), [2, 3]⟩ : XConfig)].length c_y280), (Value.slice none 0 0), (Value.slice none 0 0), (Value.slice none 0 0), (Value.slice none 0 0), (Value.slice none 0 0)]) (vs := [(Value.slice a_y334 ([(⟨[], ([] : List XSpan)⟩ : XVolume), (⟨[], ([] : List XSpan)⟩ : XVolume), (⟨[], ([] : List XSpan)⟩ : XVolume)] : List XVolume).length c_y334), (Value.slice a_y301 [r_1, r_2, r_3, r_4, r_5].length c_y301), (Value.slice a_y280 [(⟨[], ([] : List (List UInt8)), [4]⟩ : XConfig), (⟨[], ([] : List (List UInt8)), [0, 1, 2]⟩ : XConfig), (⟨[], ([] : List (List UInt8)), [2, 3]⟩ : XConfig)].length c_y280), (Value.slice none 0 0), (Value.slice none 0 0), (Value.slice none 0 0), (Value.slice none 0 0), (Value.slice none 0 0)]) ty31 (i := 0) hs338 rfl rfl rfl rfl, trivial⟩, hs338.ext, ?_⟩
 exact Vr.eq (a := (vA rXAirspace)) (x := (⟨([(⟨[], ([] : List XSpan)⟩ : XVolume), (⟨[], ([] : List XSpan)⟩ : XVolume), (⟨[], ([] : List XSpan)⟩ : XVolume)] : List XVolume), [r_1, r_2, r_3, r_4, r_5], [(⟨[], ([] : List (List UInt8)), [4]⟩ : XConfig), (⟨[], ([] : List (List UInt8)), [0, 1, 2]⟩ : XConfig), (⟨[], ([] : List (List UInt8)), [2, 3]⟩ : XConfig)], ([] : List XSegment), ([] : List XRoute), ([] : List XAirport), ([] : List XClass), ([] : List XRule)⟩ : XAirspace)) (mkA (mkVia (mk_pair (mk_sl f_y334) (mk_pair (mk_sl f_y301) (mk_pair (mk_sl f_y280) (mk_pair (mk_sl SlR.nil_) (mk_pair (mk_sl SlR.nil_) (mk_pair (mk_sl SlR.nil_) (mk_pair (mk_sl SlR.nil_) (mk_sl SlR.nil_)))))))))) (Option.some.inj hm)

end Go.Fx


