/- For every list of writes and syncs and every number, the law DiskHistory of chapter 44 returns true. -/
import Derived.Test.YtegomkljijgjjaaHist5
import Derived.Test.YtegomkljijgjjaaRows
import Derived.WalkKit
import Derived.ShutString
set_option linter.unusedVariables false
set_option linter.unusedSimpArgs false
set_option maxRecDepth 100000
set_option maxHeartbeats 0
namespace Go.Fx
open Go Go.RowKit Go.Proofs
def m17_overflightref44_Same_B1 (a : XDisk) (b : XDisk) (sf125 : Int → Option Bool) (i_2 : Int) : Option Bool :=
  bif (decide (i_2 < (a.pending.length : Int))) then
    jn (fun (v_2 : Bool) =>
      bif v_2 then
        some false
      else
        sf125 (IntKind.wrap .i64 (i_2 + 1)))
    (fun k138 =>
      ck ((0 : Int) ≤ i_2 ∧ i_2 < (a.pending.length : Int)) <|
      ck ((0 : Int) ≤ i_2 ∧ i_2 < (b.pending.length : Int)) <|
      bif (decide (((a.pending.getD i_2.toNat default).at_) ≠ ((b.pending.getD i_2.toNat default).at_))) then
        k138 true
      else
        ck ((0 : Int) ≤ i_2 ∧ i_2 < (a.pending.length : Int)) <|
        ck ((0 : Int) ≤ i_2 ∧ i_2 < (b.pending.length : Int)) <|
        k138 (decide (((a.pending.getD i_2.toNat default).data) ≠ ((b.pending.getD i_2.toNat default).data))))
  else
    some true

def m17_overflightref44_Same_B0 (a : XDisk) (b : XDisk) (sf26 : Int → Option Bool) (i_1 : Int) : Option Bool :=
  bif (decide (i_1 < (a.sectors.length : Int))) then
    ck ((0 : Int) ≤ i_1 ∧ i_1 < (a.sectors.length : Int)) <|
    ck ((0 : Int) ≤ i_1 ∧ i_1 < (b.sectors.length : Int)) <|
    bif (decide ((a.sectors.getD i_1.toNat default) ≠ (b.sectors.getD i_1.toNat default))) then
      some false
    else
      sf26 (IntKind.wrap .i64 (i_1 + 1))
  else
    loop1 (m17_overflightref44_Same_B1 a b) (((a.pending.length : Int) - 0).toNat + 1) 0

def m17_overflightref44_Same (a : XDisk) (b : XDisk) : Option Bool :=
  jn (fun (v_1 : Bool) =>
    bif v_1 then
      some false
    else
      loop1 (m17_overflightref44_Same_B0 a b) (((a.sectors.length : Int) - 0).toNat + 1) 0)
  (fun k13 =>
    bif (decide ((a.sectors.length : Int) ≠ (b.sectors.length : Int))) then
      k13 true
    else
      bif (decide ((a.pending.length : Int) ≠ (b.pending.length : Int))) then
        k13 true
      else
        bif (decide (a.left ≠ b.left)) then
          k13 true
        else
          k13 (!(a.stopped == b.stopped)))

theorem c17_overflightref44_Same {w : World} {O : List Nat} {a : XDisk} {b : XDisk} {a_a_sectors : Option Addr} {c_a_sectors : Nat} {a_a_pending : Option Addr} {c_a_pending : Nat} {a_b_sectors : Option Addr} {c_b_sectors : Nat} {a_b_pending : Option Addr} {c_b_pending : Nat} (hO : ∀ k ∈ O, k < w.heap.size) (f_a_sectors : SlR (rSl rU8) w O a_a_sectors c_a_sectors a.sectors) (f_a_pending : SlR rXWrite w O a_a_pending c_a_pending a.pending) (r_a_left : InK .i64 a.left) (f_b_sectors : SlR (rSl rU8) w O a_b_sectors c_b_sectors b.sectors) (f_b_pending : SlR rXWrite w O a_b_pending c_b_pending b.pending) (r_b_left : InK .i64 b.left) {x : Bool} (hm : m17_overflightref44_Same a b = some x) :
    Ok Try.prog 17 [(Value.agg [(Value.slice a_a_sectors a.sectors.length c_a_sectors), (Value.slice a_a_pending a.pending.length c_a_pending), (Value.int .i64 a.left), (Value.bool a.stopped)].toArray), (Value.agg [(Value.slice a_b_sectors b.sectors.length c_b_sectors), (Value.slice a_b_pending b.pending.length c_b_pending), (Value.int .i64 b.left), (Value.bool b.stopped)].toArray)] w O vB x := by
  unfold m17_overflightref44_Same at hm
  refine Fn_of_Wp (n := 94) (xs := [.tmp 4]) Try.func17 rfl Try.ntmps17 Try.results17 rfl ?_
  have hs := St.start hO
  refine Wp_seq ?_
  refine Wp_region ?_  -- 0 ref.go:114
  refine Rg_op rfl (op_box (cs := [(Value.slice a_a_sectors a.sectors.length c_a_sectors), (Value.slice a_a_pending a.pending.length c_a_pending), (Value.int .i64 a.left), (Value.bool a.stopped)]) hs rfl rfl ?_)
  intro b1 w2 _ p3 hs4
  replace f_a_sectors := f_a_sectors.step p3
  replace f_a_pending := f_a_pending.step p3
  replace f_b_sectors := f_b_sectors.step p3
  replace f_b_pending := f_b_pending.step p3
  clear p3
  refine Rg_op rfl (op_box (cs := [(Value.slice a_b_sectors b.sectors.length c_b_sectors), (Value.slice a_b_pending b.pending.length c_b_pending), (Value.int .i64 b.left), (Value.bool b.stopped)]) hs4 rfl rfl ?_)
  intro b6 w7 _ p8 hs9
  replace f_a_sectors := f_a_sectors.step p8
  replace f_a_pending := f_a_pending.step p8
  replace f_b_sectors := f_b_sectors.step p8
  replace f_b_pending := f_b_pending.step p8
  clear p8 hs4
  refine Rg_op rfl (op_assign (v := (Value.bool false)) rfl ?_)
  refine Rg_nil ?_
  refine Wp_seq ?_
  refine Wp_reset [] [(2, (Value.pointer (some ⟨b1, 0, none⟩))), (3, (Value.pointer (some ⟨b6, 0, none⟩)))] rfl ⟨rfl, rfl, trivial⟩ fun ξ11 => ?_
  replace hm := jn_elim hm; obtain ⟨k13, hk14, hm⟩ := hm
  refine Wp_seqJ [7, 8, 9, 10, 11, 12, 13, 14, 15, 16, 17, 18, 19, 20, 21, 22, 23, 24, 25, 26, 27, 28, 29, 30, 31, 32, 33, 34, 35, 36] (fun fr w' => ∃ (v_1 : Bool) (Ebs : Ents), Ebs = [(some b6, Obj.cells [(Value.slice a_b_sectors b.sectors.length c_b_sectors), (Value.slice a_b_pending b.pending.length c_b_pending), (Value.int .i64 b.left), (Value.bool b.stopped)].toArray 25), (some b1, Obj.cells [(Value.slice a_a_sectors a.sectors.length c_a_sectors), (Value.slice a_a_pending a.pending.length c_a_pending), (Value.int .i64 a.left), (Value.bool a.stopped)].toArray 25)] ∧ fr [] [(36, (Value.bool v_1))] ∧ Step (ks [(some b6, Obj.cells [(Value.slice a_b_sectors b.sectors.length c_b_sectors), (Value.slice a_b_pending b.pending.length c_b_pending), (Value.int .i64 b.left), (Value.bool b.stopped)].toArray 25), (some b1, Obj.cells [(Value.slice a_a_sectors a.sectors.length c_a_sectors), (Value.slice a_a_pending a.pending.length c_a_pending), (Value.int .i64 a.left), (Value.bool a.stopped)].toArray 25)] O) w7 (ks Ebs O) w' ∧ St ⟨w, [], []⟩ O w' Ebs ∧ k13 v_1 = some x) ?_ ?_
  ·
    rintro ρ20 w16 ⟨v_1, Ebs, hEbs, hfr19, hst18, hs17, hm⟩
    replace hm := jnE1 hk14 hm
    subst hEbs; rw [hfr19.eq]; clear hfr19
    replace f_a_sectors := f_a_sectors.step hst18
    replace f_a_pending := f_a_pending.step hst18
    replace f_b_sectors := f_b_sectors.step hst18
    replace f_b_pending := f_b_pending.step hst18
    clear hst18 hs9
    refine Wp_cond rfl (fun hc21 => ?_) (fun hc21 => ?_)
    ·
      replace hm := bif_t hm hc21
      refine Wp_seq ?_
      obtain ⟨hs22, p23⟩ := hs17.sub (bs' := []) (.cons _ (.cons _ List.Sublist.slnil))
      clear f_a_sectors f_a_pending f_b_sectors f_b_pending
      clear p23 hs17
      refine Wp_region ?_  -- 2 ref.go:116
      refine Rg_op rfl (op_assign (v := (Value.bool false)) rfl ?_)
      refine Rg_nil ?_
      refine Wp_ret ?_
      have hz := step_all hs22
      refine ⟨_, (show Closes [] _ _ from rfl), [(Value.bool false)], ⟨rfl, trivial⟩, hs22.ext, ?_⟩
      exact Vr.eq (a := vB) (x := false) rfl (Option.some.inj hm)
    ·
      replace hm := bif_f hm hc21
      refine Wp_skip ?_
      refine Wp_seq ?_
      refine Wp_seq ?_
      refine Wp_region ?_  -- 3 ref.go:118
      refine Rg_op rfl (op_assign (v := (Value.int .i64 0)) rfl ?_)
      refine Rg_nil ?_
      refine Wp_block ?_
      refine Wp_reset [] [(2, (Value.pointer (some ⟨b1, 0, none⟩))), (3, (Value.pointer (some ⟨b6, 0, none⟩))), (5, (Value.int .i64 0))] rfl ⟨rfl, rfl, rfl, trivial⟩ fun ξ25 => ?_
      refine Wp_loopM [4, 5, 37, 38, 39, 40, 41, 42, 43, 44, 45, 46, 47, 48, 49, 50, 51, 52, 53, 54, 55, 56] (fun m fr w' => ∃ (i_1 : Int) (Ebs : Ents), Ebs = [(some b6, Obj.cells [(Value.slice a_b_sectors b.sectors.length c_b_sectors), (Value.slice a_b_pending b.pending.length c_b_pending), (Value.int .i64 b.left), (Value.bool b.stopped)].toArray 25), (some b1, Obj.cells [(Value.slice a_a_sectors a.sectors.length c_a_sectors), (Value.slice a_a_pending a.pending.length c_a_pending), (Value.int .i64 a.left), (Value.bool a.stopped)].toArray 25)] ∧ fr [] [(5, (Value.int .i64 i_1))] ∧ Step (ks [(some b6, Obj.cells [(Value.slice a_b_sectors b.sectors.length c_b_sectors), (Value.slice a_b_pending b.pending.length c_b_pending), (Value.int .i64 b.left), (Value.bool b.stopped)].toArray 25), (some b1, Obj.cells [(Value.slice a_a_sectors a.sectors.length c_a_sectors), (Value.slice a_a_pending a.pending.length c_a_pending), (Value.int .i64 a.left), (Value.bool a.stopped)].toArray 25)] O) w16 (ks Ebs O) w' ∧ St ⟨w, [], []⟩ O w' Ebs ∧ InK .i64 i_1 ∧ loop1 (m17_overflightref44_Same_B0 a b) m i_1 = some x) (((a.sectors.length : Int) - 0).toNat + 1) ⟨0, _, rfl, ⟨Out.refl _ _, rfl, rfl, trivial⟩, Step.refl _ _, hs17, (show InK .i64 0 from by decide), hm⟩ ?_ ?_
      · rintro _ _ ⟨_, _, _, _, _, _, _, hm⟩; exact loop1_z hm
      · rintro m29 K28 hK28 ρ34 w30 ⟨i_1, Ebs, hEbs, hfr33, hst32, hs31, r_y24, hm⟩
        obtain ⟨sf26, hsf27, hm⟩ := loop1_s hm; unfold m17_overflightref44_Same_B0 at hm
        subst hEbs; rw [hfr33.eq]; clear hfr33
        replace f_a_sectors := f_a_sectors.step hst32
        replace f_a_pending := f_a_pending.step hst32
        replace f_b_sectors := f_b_sectors.step hst32
        replace f_b_pending := f_b_pending.step hst32
        have ch35 := hst32
        refine Wp_seq ?_
        refine Wp_seq ?_
        refine Wp_region ?_  -- 4 ref.go:118
        refine Rg_op rfl (op_move (v := (Value.int .i64 i_1)) rfl ?_)
        refine Rg_op rfl (op_fieldAddr ty25 rfl ty22 (by decide) rfl (rfl : _ = (⟨_, 0, none⟩ : Addr)) ?_)
        refine Rg_op rfl (op_load (cs := [(Value.slice a_a_sectors a.sectors.length c_a_sectors), (Value.slice a_a_pending a.pending.length c_a_pending), (Value.int .i64 a.left), (Value.bool a.stopped)]) (i := 1) ty22 hs31 rfl rfl rfl ?_)
        refine Rg_op rfl (op_len Try.underlying22 rfl ?_)
        refine Rg_op rfl (op_lss rfl rfl ?_)
        refine Rg_nil ?_
        refine Wp_cond rfl (fun hc36 => ?_) (fun hc36 => ?_)
        ·
          replace hm := bif_t hm hc36
          refine Wp_skip ?_
          refine Wp_seq ?_
          refine Wp_block ?_
          refine Wp_seq ?_
          refine Wp_drawR (g0 := []) (m := 13) (fl := []) (TS_inv hs31) (.inl rfl) rfl (by decide +kernel) ?_  -- 6
          refine Dw_eq (Value.pointer (some ⟨b1, 0, none⟩)) (fun ρ37 w38 g hle hi ht => ?_) ?_
          ·
            obtain ⟨-, hst, -⟩ := hle
            refine StepOp_plain (op_fieldAddr ty25 rfl ty22 (by decide) (ht 2 rfl) (rfl : _ = (⟨_, 0, none⟩ : Addr)) ?_)
            exact Goes.same hi rfl
          refine Dw_eq (Value.slice a_a_sectors a.sectors.length c_a_sectors) (fun ρ40 w41 g hle hi ht => ?_) ?_
          ·
            obtain ⟨-, hst, -⟩ := hle
            have hsn := (Step.nx hi).1
            refine StepOp_plain (op_load (cs := [(Value.slice a_a_sectors a.sectors.length c_a_sectors), (Value.slice a_a_pending a.pending.length c_a_pending), (Value.int .i64 a.left), (Value.bool a.stopped)]) (i := 1) ty22 hsn (ht 44 rfl) rfl rfl ?_)
            exact Goes.same hi rfl
          refine Dw_eq (Value.int .i64 i_1) (fun ρ43 w44 g hle hi ht => ?_) ?_
          ·
            obtain ⟨-, hst, -⟩ := hle
            refine StepOp_plain (op_move (v := (Value.int .i64 i_1)) (ht 5 rfl) ?_)
            exact Goes.same hi rfl
          replace hm := ck_some hm; obtain ⟨hc49, hm⟩ := hm
          refine Dw_op (VP O [(some b6, Obj.cells [(Value.slice a_b_sectors b.sectors.length c_b_sectors), (Value.slice a_b_pending b.pending.length c_b_pending), (Value.int .i64 b.left), (Value.bool b.stopped)].toArray 25), (some b1, Obj.cells [(Value.slice a_a_sectors a.sectors.length c_a_sectors), (Value.slice a_a_pending a.pending.length c_a_pending), (Value.int .i64 a.left), (Value.bool a.stopped)].toArray 25)] (rSl rU8) (a.sectors.getD i_1.toNat default)) (VP.stab _ _) (fun ρ46 w47 g hle hi ht => ?_) ?_
          ·
            obtain ⟨-, hst, -⟩ := hle
            replace f_a_sectors := f_a_sectors.step hst
            refine StepOp_plain (op_indexAddr (q := (rSl rU8)) ty22 ty41 (ht 45 rfl) (ht 46 rfl) f_a_sectors rfl hc49.1 hc49.2 ?_)
            intro p50 f51
            exact Goes.same hi ⟨_, rfl, f51⟩
          refine Dw_op (VD O [(some b6, Obj.cells [(Value.slice a_b_sectors b.sectors.length c_b_sectors), (Value.slice a_b_pending b.pending.length c_b_pending), (Value.int .i64 b.left), (Value.bool b.stopped)].toArray 25), (some b1, Obj.cells [(Value.slice a_a_sectors a.sectors.length c_a_sectors), (Value.slice a_a_pending a.pending.length c_a_pending), (Value.int .i64 a.left), (Value.bool a.stopped)].toArray 25)] (vC (rSl rU8)) (a.sectors.getD i_1.toNat default)) (VD.stab _ _) (fun ρ52 w53 g hle hi ht => ?_) ?_
          ·
            obtain ⟨-, hst, -⟩ := hle
            obtain ⟨p55, q56, f57⟩ := ht 47 rfl
            refine StepOp_plain (op_loadP ty41 q56 f57 rfl ?_)
            intro v58 h59
            obtain ⟨a_y60, c_y60, rfl, f_y60⟩ := un_sl h59
            exact Goes.same hi (show Vr.vd (vC (rSl rU8)) _ _ _ _ from (mkC (mk_sl f_y60)))
          refine Dw_eq (Value.string (bs (a.sectors.getD i_1.toNat default))) (fun ρ61 w62 g hle hi ht => ?_) ?_
          ·
            obtain ⟨-, hst, -⟩ := hle
            have h64 : Vr.vd (vC (rSl rU8)) _ _ _ _ := ht 48 rfl
            obtain ⟨a_y66, c_y66, q65, f_y66⟩ := un_sl h64
            refine StepOp_plain (op_bytesToString ty41 Try.underlying5 Try.underlying9 q65 f_y66 ?_)
            exact Goes.same hi rfl
          refine Dw_eq (Value.pointer (some ⟨b6, 0, none⟩)) (fun ρ67 w68 g hle hi ht => ?_) ?_
          ·
            obtain ⟨-, hst, -⟩ := hle
            refine StepOp_plain (op_fieldAddr ty25 rfl ty22 (by decide) (ht 3 rfl) (rfl : _ = (⟨_, 0, none⟩ : Addr)) ?_)
            exact Goes.same hi rfl
          refine Dw_eq (Value.slice a_b_sectors b.sectors.length c_b_sectors) (fun ρ70 w71 g hle hi ht => ?_) ?_
          ·
            obtain ⟨-, hst, -⟩ := hle
            have hsn := (Step.nx hi).1
            refine StepOp_plain (op_load (cs := [(Value.slice a_b_sectors b.sectors.length c_b_sectors), (Value.slice a_b_pending b.pending.length c_b_pending), (Value.int .i64 b.left), (Value.bool b.stopped)]) (i := 0) ty22 hsn (ht 50 rfl) rfl rfl ?_)
            exact Goes.same hi rfl
          refine Dw_eq (Value.int .i64 i_1) (fun ρ73 w74 g hle hi ht => ?_) ?_
          ·
            obtain ⟨-, hst, -⟩ := hle
            refine StepOp_plain (op_move (v := (Value.int .i64 i_1)) (ht 5 rfl) ?_)
            exact Goes.same hi rfl
          replace hm := ck_some hm; obtain ⟨hc79, hm⟩ := hm
          refine Dw_op (VP O [(some b6, Obj.cells [(Value.slice a_b_sectors b.sectors.length c_b_sectors), (Value.slice a_b_pending b.pending.length c_b_pending), (Value.int .i64 b.left), (Value.bool b.stopped)].toArray 25), (some b1, Obj.cells [(Value.slice a_a_sectors a.sectors.length c_a_sectors), (Value.slice a_a_pending a.pending.length c_a_pending), (Value.int .i64 a.left), (Value.bool a.stopped)].toArray 25)] (rSl rU8) (b.sectors.getD i_1.toNat default)) (VP.stab _ _) (fun ρ76 w77 g hle hi ht => ?_) ?_
          ·
            obtain ⟨-, hst, -⟩ := hle
            replace f_b_sectors := f_b_sectors.step hst
            refine StepOp_plain (op_indexAddr (q := (rSl rU8)) ty22 ty41 (ht 51 rfl) (ht 52 rfl) f_b_sectors rfl hc79.1 hc79.2 ?_)
            intro p80 f81
            exact Goes.same hi ⟨_, rfl, f81⟩
          refine Dw_op (VD O [(some b6, Obj.cells [(Value.slice a_b_sectors b.sectors.length c_b_sectors), (Value.slice a_b_pending b.pending.length c_b_pending), (Value.int .i64 b.left), (Value.bool b.stopped)].toArray 25), (some b1, Obj.cells [(Value.slice a_a_sectors a.sectors.length c_a_sectors), (Value.slice a_a_pending a.pending.length c_a_pending), (Value.int .i64 a.left), (Value.bool a.stopped)].toArray 25)] (vC (rSl rU8)) (b.sectors.getD i_1.toNat default)) (VD.stab _ _) (fun ρ82 w83 g hle hi ht => ?_) ?_
          ·
            obtain ⟨-, hst, -⟩ := hle
            obtain ⟨p85, q86, f87⟩ := ht 53 rfl
            refine StepOp_plain (op_loadP ty41 q86 f87 rfl ?_)
            intro v88 h89
            obtain ⟨a_y90, c_y90, rfl, f_y90⟩ := un_sl h89
            exact Goes.same hi (show Vr.vd (vC (rSl rU8)) _ _ _ _ from (mkC (mk_sl f_y90)))
          refine Dw_eq (Value.string (bs (b.sectors.getD i_1.toNat default))) (fun ρ91 w92 g hle hi ht => ?_) ?_
          ·
            obtain ⟨-, hst, -⟩ := hle
            have h94 : Vr.vd (vC (rSl rU8)) _ _ _ _ := ht 54 rfl
            obtain ⟨a_y96, c_y96, q95, f_y96⟩ := un_sl h94
            refine StepOp_plain (op_bytesToString ty41 Try.underlying5 Try.underlying9 q95 f_y96 ?_)
            exact Goes.same hi rfl
          refine Dw_eq (Value.bool (decide ((a.sectors.getD i_1.toNat default) ≠ (b.sectors.getD i_1.toNat default)))) (fun ρ97 w98 g hle hi ht => ?_) ?_
          ·
            obtain ⟨-, hst, -⟩ := hle
            refine StepOp_plain (op_neqs (a := (a.sectors.getD i_1.toNat default)) (b := (b.sectors.getD i_1.toNat default)) (ht 49 rfl) (ht 55 rfl) ?_)
            exact Goes.same hi rfl
          refine Dw_nil fun w104 g105 hl106 hi107 => ?_
          obtain ⟨-, hst108, -⟩ := hl106
          obtain ⟨hs110, p109⟩ := Step.nx hi107
          rintro _ rfl
          rintro _ rfl
          rintro v111 h112
          replace h112 : Vr.vd (vC (rSl rU8)) _ _ _ _ := h112
          obtain ⟨a_y113, c_y113, rfl, f_y113⟩ := un_sl h112
          rintro _ ⟨p114, rfl, f115⟩
          rintro _ rfl
          rintro _ rfl
          rintro _ rfl
          rintro _ rfl
          rintro v116 h117
          replace h117 : Vr.vd (vC (rSl rU8)) _ _ _ _ := h117
          obtain ⟨a_y118, c_y118, rfl, f_y118⟩ := un_sl h117
          rintro _ ⟨p119, rfl, f120⟩
          rintro _ rfl
          rintro _ rfl
          rintro _ rfl
          have p121 : Step (ks [(some b6, Obj.cells [(Value.slice a_b_sectors b.sectors.length c_b_sectors), (Value.slice a_b_pending b.pending.length c_b_pending), (Value.int .i64 b.left), (Value.bool b.stopped)].toArray 25), (some b1, Obj.cells [(Value.slice a_a_sectors a.sectors.length c_a_sectors), (Value.slice a_a_pending a.pending.length c_a_pending), (Value.int .i64 a.left), (Value.bool a.stopped)].toArray 25)] O) w30 (ks [(some b6, Obj.cells [(Value.slice a_b_sectors b.sectors.length c_b_sectors), (Value.slice a_b_pending b.pending.length c_b_pending), (Value.int .i64 b.left), (Value.bool b.stopped)].toArray 25), (some b1, Obj.cells [(Value.slice a_a_sectors a.sectors.length c_a_sectors), (Value.slice a_a_pending a.pending.length c_a_pending), (Value.int .i64 a.left), (Value.bool a.stopped)].toArray 25)] O) w104 := hst108.trans p109
          replace f_y113 := f_y113.step p109
          replace f115 := f115.step p109
          replace f_y118 := f_y118.step p109
          replace f120 := f120.step p109
          replace f_a_sectors := f_a_sectors.step p121
          replace f_a_pending := f_a_pending.step p121
          replace f_b_sectors := f_b_sectors.step p121
          replace f_b_pending := f_b_pending.step p121
          replace ch35 := ch35.trans p121
          clear p121 hs31
          refine Rg_nil ?_
          refine Wp_cond rfl (fun hc122 => ?_) (fun hc122 => ?_)
          ·
            replace hm := bif_t hm hc122
            refine Wp_seq ?_
            clear f_y113 f115 f_y118 f120
            refine Wp_region ?_  -- 7 ref.go:120
            refine Rg_op rfl (op_assign (v := (Value.bool false)) rfl ?_)
            refine Rg_nil ?_
            refine Wp_ret ?_
            have hz := step_all hs110
            replace f_a_sectors := f_a_sectors.step hz
            replace f_a_pending := f_a_pending.step hz
            replace f_b_sectors := f_b_sectors.step hz
            replace f_b_pending := f_b_pending.step hz
            refine ⟨_, (show Closes [] _ _ from rfl), [(Value.bool false)], ⟨rfl, trivial⟩, hs110.ext, ?_⟩
            exact Vr.eq (a := vB) (x := false) rfl (Option.some.inj hm)
          ·
            replace hm := bif_f hm hc122
            refine Wp_skip ?_
            clear f_y113 f115 f_y118 f120
            refine Wp_region ?_  -- 5 ref.go:118
            refine Rg_op rfl (op_move (v := (Value.int .i64 i_1)) rfl ?_)
            refine Rg_op rfl (op_addw rfl rfl ?_)
            refine Rg_op rfl (op_assign (v := (Value.int .i64 (IntKind.wrap .i64 (i_1 + 1)))) rfl ?_)
            refine Rg_nil ?_
            exact hK28 _ _ ⟨(IntKind.wrap .i64 (i_1 + 1)), _, rfl, ⟨(by repeat (first | with_reducible exact Out.refl _ _ | refine Out.upd ?_ rfl | refine Out.updL ?_ rfl | refine Out.mix' ?_ rfl | exact Out.refl _ _)), rfl, rfl, trivial⟩, ch35, hs110, (inK_wrap .i64 _), jnE1 hsf27 hm⟩
        ·
          replace hm := bif_f hm hc36
          refine Wp_exit ?_
          refine Wp_seq ?_
          refine Wp_seq ?_
          refine Wp_region ?_  -- 8 ref.go:123
          refine Rg_op rfl (op_assign (v := (Value.int .i64 0)) rfl ?_)
          refine Rg_nil ?_
          refine Wp_block ?_
          refine Wp_reset [] [(2, (Value.pointer (some ⟨b1, 0, none⟩))), (3, (Value.pointer (some ⟨b6, 0, none⟩))), (6, (Value.int .i64 0))] rfl ⟨rfl, rfl, rfl, trivial⟩ fun ξ124 => ?_
          refine Wp_loopM [4, 6, 57, 58, 59, 60, 61, 62, 63, 64, 65, 66, 67, 68, 69, 70, 71, 72, 73, 74, 75, 76, 77, 78, 79, 80, 81, 82, 83, 84, 85, 86, 87, 88, 89, 90, 91, 92, 93] (fun m fr w' => ∃ (i_2 : Int) (Ebs : Ents), Ebs = [(some b6, Obj.cells [(Value.slice a_b_sectors b.sectors.length c_b_sectors), (Value.slice a_b_pending b.pending.length c_b_pending), (Value.int .i64 b.left), (Value.bool b.stopped)].toArray 25), (some b1, Obj.cells [(Value.slice a_a_sectors a.sectors.length c_a_sectors), (Value.slice a_a_pending a.pending.length c_a_pending), (Value.int .i64 a.left), (Value.bool a.stopped)].toArray 25)] ∧ fr [] [(6, (Value.int .i64 i_2))] ∧ Step (ks [(some b6, Obj.cells [(Value.slice a_b_sectors b.sectors.length c_b_sectors), (Value.slice a_b_pending b.pending.length c_b_pending), (Value.int .i64 b.left), (Value.bool b.stopped)].toArray 25), (some b1, Obj.cells [(Value.slice a_a_sectors a.sectors.length c_a_sectors), (Value.slice a_a_pending a.pending.length c_a_pending), (Value.int .i64 a.left), (Value.bool a.stopped)].toArray 25)] O) w30 (ks Ebs O) w' ∧ St ⟨w, [], []⟩ O w' Ebs ∧ InK .i64 i_2 ∧ loop1 (m17_overflightref44_Same_B1 a b) m i_2 = some x) (((a.pending.length : Int) - 0).toNat + 1) ⟨0, _, rfl, ⟨Out.refl _ _, rfl, rfl, trivial⟩, Step.refl _ _, hs31, (show InK .i64 0 from by decide), hm⟩ ?_ ?_
          · rintro _ _ ⟨_, _, _, _, _, _, _, hm⟩; exact loop1_z hm
          · rintro m128 K127 hK127 ρ133 w129 ⟨i_2, Ebs, hEbs, hfr132, hst131, hs130, r_y123, hm⟩
            obtain ⟨sf125, hsf126, hm⟩ := loop1_s hm; unfold m17_overflightref44_Same_B1 at hm
            subst hEbs; rw [hfr132.eq]; clear hfr132
            replace f_a_sectors := f_a_sectors.step hst131
            replace f_a_pending := f_a_pending.step hst131
            replace f_b_sectors := f_b_sectors.step hst131
            replace f_b_pending := f_b_pending.step hst131
            replace ch35 := ch35.trans hst131
            have ch134 := hst131
            refine Wp_seq ?_
            refine Wp_seq ?_
            refine Wp_region ?_  -- 9 ref.go:123
            refine Rg_op rfl (op_move (v := (Value.int .i64 i_2)) rfl ?_)
            refine Rg_op rfl (op_fieldAddr ty25 rfl ty23 (by decide) rfl (rfl : _ = (⟨_, 1, none⟩ : Addr)) ?_)
            refine Rg_op rfl (op_load (cs := [(Value.slice a_a_sectors a.sectors.length c_a_sectors), (Value.slice a_a_pending a.pending.length c_a_pending), (Value.int .i64 a.left), (Value.bool a.stopped)]) (i := 1) ty23 hs130 rfl rfl rfl ?_)
            refine Rg_op rfl (op_len Try.underlying23 rfl ?_)
            refine Rg_op rfl (op_lss rfl rfl ?_)
            refine Rg_nil ?_
            refine Wp_cond rfl (fun hc135 => ?_) (fun hc135 => ?_)
            ·
              replace hm := bif_t hm hc135
              refine Wp_skip ?_
              refine Wp_seq ?_
              refine Wp_block ?_
              refine Wp_reset2 [4, 6, 57, 58, 59, 60, 61, 62, 63, 64, 65, 66, 67, 68, 69, 70, 71, 72, 73, 74, 75, 76, 77, 78, 79, 80, 81, 82, 83, 84, 85, 86, 87, 88, 89, 90, 91, 92, 93] [] (updL ⟨ξ124, []⟩ [(2, (Value.pointer (some ⟨b1, 0, none⟩))), (3, (Value.pointer (some ⟨b6, 0, none⟩))), (6, (Value.int .i64 0))]) [(6, (Value.int .i64 i_2))] (by repeat (first | with_reducible exact Out.refl _ _ | refine Out.upd ?_ rfl | refine Out.updL ?_ rfl | refine Out.mix' ?_ rfl | exact Out.refl _ _)) rfl ⟨rfl, trivial⟩ fun ξ136 => ?_
              replace hm := jn_elim hm; obtain ⟨k138, hk139, hm⟩ := hm
              refine Wp_seqJ [64, 65, 66, 67, 68, 69, 70, 71, 72, 73, 74, 75, 76, 77, 78, 79, 80, 81, 82, 83, 84, 85, 86, 87, 88, 89, 90, 91, 92, 93] (fun fr w' => ∃ (v_2 : Bool) (Ebs : Ents), Ebs = [(some b6, Obj.cells [(Value.slice a_b_sectors b.sectors.length c_b_sectors), (Value.slice a_b_pending b.pending.length c_b_pending), (Value.int .i64 b.left), (Value.bool b.stopped)].toArray 25), (some b1, Obj.cells [(Value.slice a_a_sectors a.sectors.length c_a_sectors), (Value.slice a_a_pending a.pending.length c_a_pending), (Value.int .i64 a.left), (Value.bool a.stopped)].toArray 25)] ∧ fr [] [(93, (Value.bool v_2))] ∧ Step (ks [(some b6, Obj.cells [(Value.slice a_b_sectors b.sectors.length c_b_sectors), (Value.slice a_b_pending b.pending.length c_b_pending), (Value.int .i64 b.left), (Value.bool b.stopped)].toArray 25), (some b1, Obj.cells [(Value.slice a_a_sectors a.sectors.length c_a_sectors), (Value.slice a_a_pending a.pending.length c_a_pending), (Value.int .i64 a.left), (Value.bool a.stopped)].toArray 25)] O) w129 (ks Ebs O) w' ∧ St ⟨w, [], []⟩ O w' Ebs ∧ k138 v_2 = some x) ?_ ?_
              ·
                rintro ρ145 w141 ⟨v_2, Ebs, hEbs, hfr144, hst143, hs142, hm⟩
                replace hm := jnE1 hk139 hm
                subst hEbs; rw [hfr144.eq]; clear hfr144
                replace f_a_sectors := f_a_sectors.step hst143
                replace f_a_pending := f_a_pending.step hst143
                replace f_b_sectors := f_b_sectors.step hst143
                replace f_b_pending := f_b_pending.step hst143
                replace ch35 := ch35.trans hst143
                replace ch134 := ch134.trans hst143
                clear hst143 hs130
                refine Wp_cond rfl (fun hc146 => ?_) (fun hc146 => ?_)
                ·
                  replace hm := bif_t hm hc146
                  refine Wp_seq ?_
                  refine Wp_region ?_  -- 12 ref.go:125
                  refine Rg_op rfl (op_assign (v := (Value.bool false)) rfl ?_)
                  refine Rg_nil ?_
                  refine Wp_ret ?_
                  have hz := step_all hs142
                  replace f_a_sectors := f_a_sectors.step hz
                  replace f_a_pending := f_a_pending.step hz
                  replace f_b_sectors := f_b_sectors.step hz
                  replace f_b_pending := f_b_pending.step hz
                  refine ⟨_, (show Closes [] _ _ from rfl), [(Value.bool false)], ⟨rfl, trivial⟩, hs142.ext, ?_⟩
                  exact Vr.eq (a := vB) (x := false) rfl (Option.some.inj hm)
                ·
                  replace hm := bif_f hm hc146
                  refine Wp_skip ?_
                  refine Wp_region ?_  -- 10 ref.go:123
                  refine Rg_op rfl (op_move (v := (Value.int .i64 i_2)) rfl ?_)
                  refine Rg_op rfl (op_addw rfl rfl ?_)
                  refine Rg_op rfl (op_assign (v := (Value.int .i64 (IntKind.wrap .i64 (i_2 + 1)))) rfl ?_)
                  refine Rg_nil ?_
                  exact hK127 _ _ ⟨(IntKind.wrap .i64 (i_2 + 1)), _, rfl, ⟨(by repeat (first | with_reducible exact Out.refl _ _ | refine Out.upd ?_ rfl | refine Out.updL ?_ rfl | refine Out.mix' ?_ rfl | exact Out.refl _ _)), rfl, rfl, trivial⟩, ch134, hs142, (inK_wrap .i64 _), jnE1 hsf126 hm⟩
              ·
                intro K140 hK140
                have ch147 := Step.refl (ks [(some b6, Obj.cells [(Value.slice a_b_sectors b.sectors.length c_b_sectors), (Value.slice a_b_pending b.pending.length c_b_pending), (Value.int .i64 b.left), (Value.bool b.stopped)].toArray 25), (some b1, Obj.cells [(Value.slice a_a_sectors a.sectors.length c_a_sectors), (Value.slice a_a_pending a.pending.length c_a_pending), (Value.int .i64 a.left), (Value.bool a.stopped)].toArray 25)] O) w129
                refine Wp_drawR (g0 := []) (m := 30) (fl := []) (TS_inv hs130) (.inl rfl) rfl (by decide +kernel) ?_  -- 11
                refine Dw_eq (Value.pointer (some ⟨b1, 1, none⟩)) (fun ρ148 w149 g hle hi ht => ?_) ?_
                ·
                  obtain ⟨-, hst, -⟩ := hle
                  refine StepOp_plain (op_fieldAddr ty25 rfl ty23 (by decide) (ht 2 rfl) (rfl : _ = (⟨_, 1, none⟩ : Addr)) ?_)
                  exact Goes.same hi rfl
                refine Dw_eq (Value.slice a_a_pending a.pending.length c_a_pending) (fun ρ151 w152 g hle hi ht => ?_) ?_
                ·
                  obtain ⟨-, hst, -⟩ := hle
                  have hsn := (Step.nx hi).1
                  refine StepOp_plain (op_load (cs := [(Value.slice a_a_sectors a.sectors.length c_a_sectors), (Value.slice a_a_pending a.pending.length c_a_pending), (Value.int .i64 a.left), (Value.bool a.stopped)]) (i := 1) ty23 hsn (ht 64 rfl) rfl rfl ?_)
                  exact Goes.same hi rfl
                refine Dw_eq (Value.int .i64 i_2) (fun ρ154 w155 g hle hi ht => ?_) ?_
                ·
                  obtain ⟨-, hst, -⟩ := hle
                  refine StepOp_plain (op_move (v := (Value.int .i64 i_2)) (ht 6 rfl) ?_)
                  exact Goes.same hi rfl
                replace hm := ck_some hm; obtain ⟨hc160, hm⟩ := hm
                refine Dw_op (VP O [(some b6, Obj.cells [(Value.slice a_b_sectors b.sectors.length c_b_sectors), (Value.slice a_b_pending b.pending.length c_b_pending), (Value.int .i64 b.left), (Value.bool b.stopped)].toArray 25), (some b1, Obj.cells [(Value.slice a_a_sectors a.sectors.length c_a_sectors), (Value.slice a_a_pending a.pending.length c_a_pending), (Value.int .i64 a.left), (Value.bool a.stopped)].toArray 25)] rXWrite (a.pending.getD i_2.toNat default)) (VP.stab _ _) (fun ρ157 w158 g hle hi ht => ?_) ?_
                ·
                  obtain ⟨-, hst, -⟩ := hle
                  replace f_a_pending := f_a_pending.step hst
                  refine StepOp_plain (op_indexAddr (q := rXWrite) ty23 ty73 (ht 65 rfl) (ht 66 rfl) f_a_pending rfl hc160.1 hc160.2 ?_)
                  intro p161 f162
                  exact Goes.same hi ⟨_, rfl, f162⟩
                refine Dw_op (VP O [(some b6, Obj.cells [(Value.slice a_b_sectors b.sectors.length c_b_sectors), (Value.slice a_b_pending b.pending.length c_b_pending), (Value.int .i64 b.left), (Value.bool b.stopped)].toArray 25), (some b1, Obj.cells [(Value.slice a_a_sectors a.sectors.length c_a_sectors), (Value.slice a_a_pending a.pending.length c_a_pending), (Value.int .i64 a.left), (Value.bool a.stopped)].toArray 25)] (rInt .i64) ((a.pending.getD i_2.toNat default).at_)) (VP.stab _ _) (fun ρ163 w164 g hle hi ht => ?_) ?_
                ·
                  obtain ⟨-, hst, -⟩ := hle
                  obtain ⟨p166, q167, f168⟩ := ht 67 rfl
                  refine StepOp_plain (op_fieldAddr ty73 rfl ty3 (by decide) q167 rfl ?_)
                  have f169 := f168.via.fst
                  exact Goes.same hi ⟨_, rfl, f169⟩
                refine Dw_op (VD O [(some b6, Obj.cells [(Value.slice a_b_sectors b.sectors.length c_b_sectors), (Value.slice a_b_pending b.pending.length c_b_pending), (Value.int .i64 b.left), (Value.bool b.stopped)].toArray 25), (some b1, Obj.cells [(Value.slice a_a_sectors a.sectors.length c_a_sectors), (Value.slice a_a_pending a.pending.length c_a_pending), (Value.int .i64 a.left), (Value.bool a.stopped)].toArray 25)] (vI .i64) ((a.pending.getD i_2.toNat default).at_)) (VD.stab _ _) (fun ρ170 w171 g hle hi ht => ?_) ?_
                ·
                  obtain ⟨-, hst, -⟩ := hle
                  obtain ⟨p173, q174, f175⟩ := ht 68 rfl
                  refine StepOp_plain (op_loadP ty3 q174 f175 rfl ?_)
                  intro v176 h177
                  obtain ⟨rfl, r_y178⟩ := un_int h177
                  exact Goes.same hi (show Vr.vd (vI .i64) _ _ _ _ from ⟨rfl, r_y178⟩)
                refine Dw_eq (Value.pointer (some ⟨b6, 1, none⟩)) (fun ρ179 w180 g hle hi ht => ?_) ?_
                ·
                  obtain ⟨-, hst, -⟩ := hle
                  refine StepOp_plain (op_fieldAddr ty25 rfl ty23 (by decide) (ht 3 rfl) (rfl : _ = (⟨_, 1, none⟩ : Addr)) ?_)
                  exact Goes.same hi rfl
                refine Dw_eq (Value.slice a_b_pending b.pending.length c_b_pending) (fun ρ182 w183 g hle hi ht => ?_) ?_
                ·
                  obtain ⟨-, hst, -⟩ := hle
                  have hsn := (Step.nx hi).1
                  refine StepOp_plain (op_load (cs := [(Value.slice a_b_sectors b.sectors.length c_b_sectors), (Value.slice a_b_pending b.pending.length c_b_pending), (Value.int .i64 b.left), (Value.bool b.stopped)]) (i := 0) ty23 hsn (ht 70 rfl) rfl rfl ?_)
                  exact Goes.same hi rfl
                refine Dw_eq (Value.int .i64 i_2) (fun ρ185 w186 g hle hi ht => ?_) ?_
                ·
                  obtain ⟨-, hst, -⟩ := hle
                  refine StepOp_plain (op_move (v := (Value.int .i64 i_2)) (ht 6 rfl) ?_)
                  exact Goes.same hi rfl
                replace hm := ck_some hm; obtain ⟨hc191, hm⟩ := hm
                refine Dw_op (VP O [(some b6, Obj.cells [(Value.slice a_b_sectors b.sectors.length c_b_sectors), (Value.slice a_b_pending b.pending.length c_b_pending), (Value.int .i64 b.left), (Value.bool b.stopped)].toArray 25), (some b1, Obj.cells [(Value.slice a_a_sectors a.sectors.length c_a_sectors), (Value.slice a_a_pending a.pending.length c_a_pending), (Value.int .i64 a.left), (Value.bool a.stopped)].toArray 25)] rXWrite (b.pending.getD i_2.toNat default)) (VP.stab _ _) (fun ρ188 w189 g hle hi ht => ?_) ?_
                ·
                  obtain ⟨-, hst, -⟩ := hle
                  replace f_b_pending := f_b_pending.step hst
                  refine StepOp_plain (op_indexAddr (q := rXWrite) ty23 ty73 (ht 71 rfl) (ht 72 rfl) f_b_pending rfl hc191.1 hc191.2 ?_)
                  intro p192 f193
                  exact Goes.same hi ⟨_, rfl, f193⟩
                refine Dw_op (VP O [(some b6, Obj.cells [(Value.slice a_b_sectors b.sectors.length c_b_sectors), (Value.slice a_b_pending b.pending.length c_b_pending), (Value.int .i64 b.left), (Value.bool b.stopped)].toArray 25), (some b1, Obj.cells [(Value.slice a_a_sectors a.sectors.length c_a_sectors), (Value.slice a_a_pending a.pending.length c_a_pending), (Value.int .i64 a.left), (Value.bool a.stopped)].toArray 25)] (rInt .i64) ((b.pending.getD i_2.toNat default).at_)) (VP.stab _ _) (fun ρ194 w195 g hle hi ht => ?_) ?_
                ·
                  obtain ⟨-, hst, -⟩ := hle
                  obtain ⟨p197, q198, f199⟩ := ht 73 rfl
                  refine StepOp_plain (op_fieldAddr ty73 rfl ty3 (by decide) q198 rfl ?_)
                  have f200 := f199.via.fst
                  exact Goes.same hi ⟨_, rfl, f200⟩
                refine Dw_op (VD O [(some b6, Obj.cells [(Value.slice a_b_sectors b.sectors.length c_b_sectors), (Value.slice a_b_pending b.pending.length c_b_pending), (Value.int .i64 b.left), (Value.bool b.stopped)].toArray 25), (some b1, Obj.cells [(Value.slice a_a_sectors a.sectors.length c_a_sectors), (Value.slice a_a_pending a.pending.length c_a_pending), (Value.int .i64 a.left), (Value.bool a.stopped)].toArray 25)] (vI .i64) ((b.pending.getD i_2.toNat default).at_)) (VD.stab _ _) (fun ρ201 w202 g hle hi ht => ?_) ?_
                ·
                  obtain ⟨-, hst, -⟩ := hle
                  obtain ⟨p204, q205, f206⟩ := ht 74 rfl
                  refine StepOp_plain (op_loadP ty3 q205 f206 rfl ?_)
                  intro v207 h208
                  obtain ⟨rfl, r_y209⟩ := un_int h208
                  exact Goes.same hi (show Vr.vd (vI .i64) _ _ _ _ from ⟨rfl, r_y209⟩)
                refine Dw_eq (Value.bool (decide (((a.pending.getD i_2.toNat default).at_) ≠ ((b.pending.getD i_2.toNat default).at_)))) (fun ρ210 w211 g hle hi ht => ?_) ?_
                ·
                  obtain ⟨-, hst, -⟩ := hle
                  have h213 : Vr.vd (vI .i64) _ _ _ _ := ht 69 rfl
                  obtain ⟨q214, r_y215⟩ := h213
                  have h216 : Vr.vd (vI .i64) _ _ _ _ := ht 75 rfl
                  obtain ⟨q217, r_y218⟩ := h216
                  refine StepOp_plain (op_neq q214 q217 ?_)
                  exact Goes.same hi rfl
                refine Dw_opB (decide (((a.pending.getD i_2.toNat default).at_) ≠ ((b.pending.getD i_2.toNat default).at_))) (fun ρ219 w220 g hle hi ht => ?_) (fun hg222 => ?_) (fun hg222 => ?_)
                ·
                  obtain ⟨-, hst, -⟩ := hle
                  refine StepOp_plain (op_move (v := (Value.bool (decide (((a.pending.getD i_2.toNat default).at_) ≠ ((b.pending.getD i_2.toNat default).at_))))) (ht 76 rfl) ?_)
                  exact Goes.same hi rfl
                ·
                  replace hm := bif_t hm hg222
                  refine Dw_skip (fun _ _ _ ht => wanted_x rfl (ht 77 rfl) rfl) ?_
                  refine Dw_skip (fun _ _ _ ht => wanted_x rfl (ht 77 rfl) rfl) ?_
                  refine Dw_skip (fun _ _ _ ht => wanted_x rfl (ht 77 rfl) rfl) ?_
                  refine Dw_skip (fun _ _ _ ht => wanted_x rfl (ht 77 rfl) rfl) ?_
                  refine Dw_skip (fun _ _ _ ht => wanted_x rfl (ht 77 rfl) rfl) ?_
                  refine Dw_skip (fun _ _ _ ht => wanted_x rfl (ht 77 rfl) rfl) ?_
                  refine Dw_skip (fun _ _ _ ht => wanted_x rfl (ht 77 rfl) rfl) ?_
                  refine Dw_skip (fun _ _ _ ht => wanted_x rfl (ht 77 rfl) rfl) ?_
                  refine Dw_skip (fun _ _ _ ht => wanted_x rfl (ht 77 rfl) rfl) ?_
                  refine Dw_skip (fun _ _ _ ht => wanted_x rfl (ht 77 rfl) rfl) ?_
                  refine Dw_skip (fun _ _ _ ht => wanted_x rfl (ht 77 rfl) rfl) ?_
                  refine Dw_skip (fun _ _ _ ht => wanted_x rfl (ht 77 rfl) rfl) ?_
                  refine Dw_skip (fun _ _ _ ht => wanted_x rfl (ht 77 rfl) rfl) ?_
                  refine Dw_skip (fun _ _ _ ht => wanted_x rfl (ht 77 rfl) rfl) ?_
                  refine Dw_skip (fun _ _ _ ht => wanted_x rfl (ht 77 rfl) rfl) ?_
                  refine Dw_eq (Value.bool true) (fun ρ223 w224 g hle hi ht => ?_) ?_
                  ·
                    obtain ⟨-, hst, -⟩ := hle
                    refine StepOp_plain (op_pick_t (v := (Value.bool true)) (ht 77 rfl) rfl ?_)
                    exact Goes.same hi rfl
                  refine Dw_nil fun w230 g231 hl232 hi233 => ?_
                  obtain ⟨-, hst234, -⟩ := hl232
                  obtain ⟨hs236, p235⟩ := Step.nx hi233
                  rintro _ rfl
                  rintro _ rfl
                  rintro _ rfl
                  rintro _ rfl
                  rintro _ rfl
                  rintro _ rfl
                  rintro _ rfl
                  rintro _ rfl
                  rintro _ rfl
                  rintro _ rfl
                  rintro _ rfl
                  rintro _ rfl
                  rintro _ rfl
                  rintro _ rfl
                  rintro _ rfl
                  rintro _ rfl
                  rintro _ rfl
                  rintro _ rfl
                  rintro v237 h238
                  replace h238 : Vr.vd (vI .i64) _ _ _ _ := h238
                  obtain ⟨rfl, r_y239⟩ := h238
                  rintro _ ⟨p240, rfl, f241⟩
                  rintro _ ⟨p242, rfl, f243⟩
                  rintro _ rfl
                  rintro _ rfl
                  rintro _ rfl
                  rintro v244 h245
                  replace h245 : Vr.vd (vI .i64) _ _ _ _ := h245
                  obtain ⟨rfl, r_y246⟩ := h245
                  rintro _ ⟨p247, rfl, f248⟩
                  rintro _ ⟨p249, rfl, f250⟩
                  rintro _ rfl
                  rintro _ rfl
                  rintro _ rfl
                  have p251 : Step (ks [(some b6, Obj.cells [(Value.slice a_b_sectors b.sectors.length c_b_sectors), (Value.slice a_b_pending b.pending.length c_b_pending), (Value.int .i64 b.left), (Value.bool b.stopped)].toArray 25), (some b1, Obj.cells [(Value.slice a_a_sectors a.sectors.length c_a_sectors), (Value.slice a_a_pending a.pending.length c_a_pending), (Value.int .i64 a.left), (Value.bool a.stopped)].toArray 25)] O) w129 (ks [(some b6, Obj.cells [(Value.slice a_b_sectors b.sectors.length c_b_sectors), (Value.slice a_b_pending b.pending.length c_b_pending), (Value.int .i64 b.left), (Value.bool b.stopped)].toArray 25), (some b1, Obj.cells [(Value.slice a_a_sectors a.sectors.length c_a_sectors), (Value.slice a_a_pending a.pending.length c_a_pending), (Value.int .i64 a.left), (Value.bool a.stopped)].toArray 25)] O) w230 := hst234.trans p235
                  replace f241 := f241.step p235
                  replace f243 := f243.step p235
                  replace f248 := f248.step p235
                  replace f250 := f250.step p235
                  replace f_a_sectors := f_a_sectors.step p251
                  replace f_a_pending := f_a_pending.step p251
                  replace f_b_sectors := f_b_sectors.step p251
                  replace f_b_pending := f_b_pending.step p251
                  replace ch35 := ch35.trans p251
                  replace ch134 := ch134.trans p251
                  replace ch147 := ch147.trans p251
                  clear p251 hs130
                  refine Rg_nil ?_
                  exact hK140 _ _ ⟨true, _, rfl, ⟨(by repeat (first | with_reducible exact Out.refl _ _ | refine Out.upd ?_ rfl | refine Out.updL ?_ rfl | refine Out.mix' ?_ rfl | exact Out.refl _ _)), rfl, rfl, trivial⟩, ch147, hs236, hm⟩
                ·
                  replace hm := bif_f hm hg222
                  refine Dw_eq (Value.pointer (some ⟨b1, 1, none⟩)) (fun ρ252 w253 g hle hi ht => ?_) ?_
                  ·
                    obtain ⟨-, hst, -⟩ := hle
                    refine StepOp_g rfl (ht 77 rfl) (op_fieldAddr ty25 rfl ty23 (by decide) (ht 2 rfl) (rfl : _ = (⟨_, 1, none⟩ : Addr)) ?_)
                    exact Goes.same hi rfl
                  refine Dw_eq (Value.slice a_a_pending a.pending.length c_a_pending) (fun ρ255 w256 g hle hi ht => ?_) ?_
                  ·
                    obtain ⟨-, hst, -⟩ := hle
                    have hsn := (Step.nx hi).1
                    refine StepOp_g rfl (ht 77 rfl) (op_load (cs := [(Value.slice a_a_sectors a.sectors.length c_a_sectors), (Value.slice a_a_pending a.pending.length c_a_pending), (Value.int .i64 a.left), (Value.bool a.stopped)]) (i := 1) ty23 hsn (ht 78 rfl) rfl rfl ?_)
                    exact Goes.same hi rfl
                  refine Dw_eq (Value.int .i64 i_2) (fun ρ258 w259 g hle hi ht => ?_) ?_
                  ·
                    obtain ⟨-, hst, -⟩ := hle
                    refine StepOp_g rfl (ht 77 rfl) (op_move (v := (Value.int .i64 i_2)) (ht 6 rfl) ?_)
                    exact Goes.same hi rfl
                  replace hm := ck_some hm; obtain ⟨hc264, hm⟩ := hm
                  refine Dw_op (VP O [(some b6, Obj.cells [(Value.slice a_b_sectors b.sectors.length c_b_sectors), (Value.slice a_b_pending b.pending.length c_b_pending), (Value.int .i64 b.left), (Value.bool b.stopped)].toArray 25), (some b1, Obj.cells [(Value.slice a_a_sectors a.sectors.length c_a_sectors), (Value.slice a_a_pending a.pending.length c_a_pending), (Value.int .i64 a.left), (Value.bool a.stopped)].toArray 25)] rXWrite (a.pending.getD i_2.toNat default)) (VP.stab _ _) (fun ρ261 w262 g hle hi ht => ?_) ?_
                  ·
                    obtain ⟨-, hst, -⟩ := hle
                    replace f_a_pending := f_a_pending.step hst
                    refine StepOp_g rfl (ht 77 rfl) (op_indexAddr (q := rXWrite) ty23 ty73 (ht 79 rfl) (ht 80 rfl) f_a_pending rfl hc264.1 hc264.2 ?_)
                    intro p265 f266
                    exact Goes.same hi ⟨_, rfl, f266⟩
                  refine Dw_op (VP O [(some b6, Obj.cells [(Value.slice a_b_sectors b.sectors.length c_b_sectors), (Value.slice a_b_pending b.pending.length c_b_pending), (Value.int .i64 b.left), (Value.bool b.stopped)].toArray 25), (some b1, Obj.cells [(Value.slice a_a_sectors a.sectors.length c_a_sectors), (Value.slice a_a_pending a.pending.length c_a_pending), (Value.int .i64 a.left), (Value.bool a.stopped)].toArray 25)] (rSl rU8) ((a.pending.getD i_2.toNat default).data)) (VP.stab _ _) (fun ρ267 w268 g hle hi ht => ?_) ?_
                  ·
                    obtain ⟨-, hst, -⟩ := hle
                    obtain ⟨p270, q271, f272⟩ := ht 81 rfl
                    refine StepOp_g rfl (ht 77 rfl) (op_fieldAddr ty73 rfl ty41 (by decide) q271 rfl ?_)
                    have f273 := f272.via.snd
                    exact Goes.same hi ⟨_, rfl, f273⟩
                  refine Dw_op (VD O [(some b6, Obj.cells [(Value.slice a_b_sectors b.sectors.length c_b_sectors), (Value.slice a_b_pending b.pending.length c_b_pending), (Value.int .i64 b.left), (Value.bool b.stopped)].toArray 25), (some b1, Obj.cells [(Value.slice a_a_sectors a.sectors.length c_a_sectors), (Value.slice a_a_pending a.pending.length c_a_pending), (Value.int .i64 a.left), (Value.bool a.stopped)].toArray 25)] (vC (rSl rU8)) ((a.pending.getD i_2.toNat default).data)) (VD.stab _ _) (fun ρ274 w275 g hle hi ht => ?_) ?_
                  ·
                    obtain ⟨-, hst, -⟩ := hle
                    obtain ⟨p277, q278, f279⟩ := ht 82 rfl
                    refine StepOp_g rfl (ht 77 rfl) (op_loadP ty41 q278 f279 rfl ?_)
                    intro v280 h281
                    obtain ⟨a_y282, c_y282, rfl, f_y282⟩ := un_sl h281
                    exact Goes.same hi (show Vr.vd (vC (rSl rU8)) _ _ _ _ from (mkC (mk_sl f_y282)))
                  refine Dw_eq (Value.string (bs ((a.pending.getD i_2.toNat default).data))) (fun ρ283 w284 g hle hi ht => ?_) ?_
                  ·
                    obtain ⟨-, hst, -⟩ := hle
                    have h286 : Vr.vd (vC (rSl rU8)) _ _ _ _ := ht 83 rfl
                    obtain ⟨a_y288, c_y288, q287, f_y288⟩ := un_sl h286
                    refine StepOp_g rfl (ht 77 rfl) (op_bytesToString ty41 Try.underlying5 Try.underlying9 q287 f_y288 ?_)
                    exact Goes.same hi rfl
                  refine Dw_eq (Value.pointer (some ⟨b6, 1, none⟩)) (fun ρ289 w290 g hle hi ht => ?_) ?_
                  ·
                    obtain ⟨-, hst, -⟩ := hle
                    refine StepOp_g rfl (ht 77 rfl) (op_fieldAddr ty25 rfl ty23 (by decide) (ht 3 rfl) (rfl : _ = (⟨_, 1, none⟩ : Addr)) ?_)
                    exact Goes.same hi rfl
                  refine Dw_eq (Value.slice a_b_pending b.pending.length c_b_pending) (fun ρ292 w293 g hle hi ht => ?_) ?_
                  ·
                    obtain ⟨-, hst, -⟩ := hle
                    have hsn := (Step.nx hi).1
                    refine StepOp_g rfl (ht 77 rfl) (op_load (cs := [(Value.slice a_b_sectors b.sectors.length c_b_sectors), (Value.slice a_b_pending b.pending.length c_b_pending), (Value.int .i64 b.left), (Value.bool b.stopped)]) (i := 0) ty23 hsn (ht 85 rfl) rfl rfl ?_)
                    exact Goes.same hi rfl
                  refine Dw_eq (Value.int .i64 i_2) (fun ρ295 w296 g hle hi ht => ?_) ?_
                  ·
                    obtain ⟨-, hst, -⟩ := hle
                    refine StepOp_g rfl (ht 77 rfl) (op_move (v := (Value.int .i64 i_2)) (ht 6 rfl) ?_)
                    exact Goes.same hi rfl
                  replace hm := ck_some hm; obtain ⟨hc301, hm⟩ := hm
                  refine Dw_op (VP O [(some b6, Obj.cells [(Value.slice a_b_sectors b.sectors.length c_b_sectors), (Value.slice a_b_pending b.pending.length c_b_pending), (Value.int .i64 b.left), (Value.bool b.stopped)].toArray 25), (some b1, Obj.cells [(Value.slice a_a_sectors a.sectors.length c_a_sectors), (Value.slice a_a_pending a.pending.length c_a_pending), (Value.int .i64 a.left), (Value.bool a.stopped)].toArray 25)] rXWrite (b.pending.getD i_2.toNat default)) (VP.stab _ _) (fun ρ298 w299 g hle hi ht => ?_) ?_
                  ·
                    obtain ⟨-, hst, -⟩ := hle
                    replace f_b_pending := f_b_pending.step hst
                    refine StepOp_g rfl (ht 77 rfl) (op_indexAddr (q := rXWrite) ty23 ty73 (ht 86 rfl) (ht 87 rfl) f_b_pending rfl hc301.1 hc301.2 ?_)
                    intro p302 f303
                    exact Goes.same hi ⟨_, rfl, f303⟩
                  refine Dw_op (VP O [(some b6, Obj.cells [(Value.slice a_b_sectors b.sectors.length c_b_sectors), (Value.slice a_b_pending b.pending.length c_b_pending), (Value.int .i64 b.left), (Value.bool b.stopped)].toArray 25), (some b1, Obj.cells [(Value.slice a_a_sectors a.sectors.length c_a_sectors), (Value.slice a_a_pending a.pending.length c_a_pending), (Value.int .i64 a.left), (Value.bool a.stopped)].toArray 25)] (rSl rU8) ((b.pending.getD i_2.toNat default).data)) (VP.stab _ _) (fun ρ304 w305 g hle hi ht => ?_) ?_
                  ·
                    obtain ⟨-, hst, -⟩ := hle
                    obtain ⟨p307, q308, f309⟩ := ht 88 rfl
                    refine StepOp_g rfl (ht 77 rfl) (op_fieldAddr ty73 rfl ty41 (by decide) q308 rfl ?_)
                    have f310 := f309.via.snd
                    exact Goes.same hi ⟨_, rfl, f310⟩
                  refine Dw_op (VD O [(some b6, Obj.cells [(Value.slice a_b_sectors b.sectors.length c_b_sectors), (Value.slice a_b_pending b.pending.length c_b_pending), (Value.int .i64 b.left), (Value.bool b.stopped)].toArray 25), (some b1, Obj.cells [(Value.slice a_a_sectors a.sectors.length c_a_sectors), (Value.slice a_a_pending a.pending.length c_a_pending), (Value.int .i64 a.left), (Value.bool a.stopped)].toArray 25)] (vC (rSl rU8)) ((b.pending.getD i_2.toNat default).data)) (VD.stab _ _) (fun ρ311 w312 g hle hi ht => ?_) ?_
                  ·
                    obtain ⟨-, hst, -⟩ := hle
                    obtain ⟨p314, q315, f316⟩ := ht 89 rfl
                    refine StepOp_g rfl (ht 77 rfl) (op_loadP ty41 q315 f316 rfl ?_)
                    intro v317 h318
                    obtain ⟨a_y319, c_y319, rfl, f_y319⟩ := un_sl h318
                    exact Goes.same hi (show Vr.vd (vC (rSl rU8)) _ _ _ _ from (mkC (mk_sl f_y319)))
                  refine Dw_eq (Value.string (bs ((b.pending.getD i_2.toNat default).data))) (fun ρ320 w321 g hle hi ht => ?_) ?_
                  ·
                    obtain ⟨-, hst, -⟩ := hle
                    have h323 : Vr.vd (vC (rSl rU8)) _ _ _ _ := ht 90 rfl
                    obtain ⟨a_y325, c_y325, q324, f_y325⟩ := un_sl h323
                    refine StepOp_g rfl (ht 77 rfl) (op_bytesToString ty41 Try.underlying5 Try.underlying9 q324 f_y325 ?_)
                    exact Goes.same hi rfl
                  refine Dw_eq (Value.bool (decide (((a.pending.getD i_2.toNat default).data) ≠ ((b.pending.getD i_2.toNat default).data)))) (fun ρ326 w327 g hle hi ht => ?_) ?_
                  ·
                    obtain ⟨-, hst, -⟩ := hle
                    refine StepOp_g rfl (ht 77 rfl) (op_neqs (a := (a.pending.getD i_2.toNat default).data) (b := (b.pending.getD i_2.toNat default).data) (ht 84 rfl) (ht 91 rfl) ?_)
                    exact Goes.same hi rfl
                  refine Dw_eq (Value.bool (decide (((a.pending.getD i_2.toNat default).data) ≠ ((b.pending.getD i_2.toNat default).data)))) (fun ρ329 w330 g hle hi ht => ?_) ?_
                  ·
                    obtain ⟨-, hst, -⟩ := hle
                    refine StepOp_plain (op_pick_f (v := (Value.bool (decide (((a.pending.getD i_2.toNat default).data) ≠ ((b.pending.getD i_2.toNat default).data))))) (ht 77 rfl) (ht 92 rfl) ?_)
                    exact Goes.same hi rfl
                  refine Dw_nil fun w336 g337 hl338 hi339 => ?_
                  obtain ⟨-, hst340, -⟩ := hl338
                  obtain ⟨hs342, p341⟩ := Step.nx hi339
                  rintro _ rfl
                  rintro _ rfl
                  rintro _ rfl
                  rintro v343 h344
                  replace h344 : Vr.vd (vC (rSl rU8)) _ _ _ _ := h344
                  obtain ⟨a_y345, c_y345, rfl, f_y345⟩ := un_sl h344
                  rintro _ ⟨p346, rfl, f347⟩
                  rintro _ ⟨p348, rfl, f349⟩
                  rintro _ rfl
                  rintro _ rfl
                  rintro _ rfl
                  rintro _ rfl
                  rintro v350 h351
                  replace h351 : Vr.vd (vC (rSl rU8)) _ _ _ _ := h351
                  obtain ⟨a_y352, c_y352, rfl, f_y352⟩ := un_sl h351
                  rintro _ ⟨p353, rfl, f354⟩
                  rintro _ ⟨p355, rfl, f356⟩
                  rintro _ rfl
                  rintro _ rfl
                  rintro _ rfl
                  rintro _ rfl
                  rintro _ rfl
                  rintro v357 h358
                  replace h358 : Vr.vd (vI .i64) _ _ _ _ := h358
                  obtain ⟨rfl, r_y359⟩ := h358
                  rintro _ ⟨p360, rfl, f361⟩
                  rintro _ ⟨p362, rfl, f363⟩
                  rintro _ rfl
                  rintro _ rfl
                  rintro _ rfl
                  rintro v364 h365
                  replace h365 : Vr.vd (vI .i64) _ _ _ _ := h365
                  obtain ⟨rfl, r_y366⟩ := h365
                  rintro _ ⟨p367, rfl, f368⟩
                  rintro _ ⟨p369, rfl, f370⟩
                  rintro _ rfl
                  rintro _ rfl
                  rintro _ rfl
                  have p371 : Step (ks [(some b6, Obj.cells [(Value.slice a_b_sectors b.sectors.length c_b_sectors), (Value.slice a_b_pending b.pending.length c_b_pending), (Value.int .i64 b.left), (Value.bool b.stopped)].toArray 25), (some b1, Obj.cells [(Value.slice a_a_sectors a.sectors.length c_a_sectors), (Value.slice a_a_pending a.pending.length c_a_pending), (Value.int .i64 a.left), (Value.bool a.stopped)].toArray 25)] O) w129 (ks [(some b6, Obj.cells [(Value.slice a_b_sectors b.sectors.length c_b_sectors), (Value.slice a_b_pending b.pending.length c_b_pending), (Value.int .i64 b.left), (Value.bool b.stopped)].toArray 25), (some b1, Obj.cells [(Value.slice a_a_sectors a.sectors.length c_a_sectors), (Value.slice a_a_pending a.pending.length c_a_pending), (Value.int .i64 a.left), (Value.bool a.stopped)].toArray 25)] O) w336 := hst340.trans p341
                  replace f_y345 := f_y345.step p341
                  replace f347 := f347.step p341
                  replace f349 := f349.step p341
                  replace f_y352 := f_y352.step p341
                  replace f354 := f354.step p341
                  replace f356 := f356.step p341
                  replace f361 := f361.step p341
                  replace f363 := f363.step p341
                  replace f368 := f368.step p341
                  replace f370 := f370.step p341
                  replace f_a_sectors := f_a_sectors.step p371
                  replace f_a_pending := f_a_pending.step p371
                  replace f_b_sectors := f_b_sectors.step p371
                  replace f_b_pending := f_b_pending.step p371
                  replace ch35 := ch35.trans p371
                  replace ch134 := ch134.trans p371
                  replace ch147 := ch147.trans p371
                  clear p371 hs130
                  refine Rg_nil ?_
                  exact hK140 _ _ ⟨(decide (((a.pending.getD i_2.toNat default).data) ≠ ((b.pending.getD i_2.toNat default).data))), _, rfl, ⟨(by repeat (first | with_reducible exact Out.refl _ _ | refine Out.upd ?_ rfl | refine Out.updL ?_ rfl | refine Out.mix' ?_ rfl | exact Out.refl _ _)), rfl, rfl, trivial⟩, ch147, hs342, hm⟩
            ·
              replace hm := bif_f hm hc135
              refine Wp_exit ?_
              refine Wp_seq ?_
              obtain ⟨hs372, p373⟩ := hs130.sub (bs' := []) (.cons _ (.cons _ List.Sublist.slnil))
              clear f_a_sectors f_a_pending f_b_sectors f_b_pending
              replace ch35 := ch35.trans p373
              replace ch134 := ch134.trans p373
              clear p373 hs130
              refine Wp_region ?_  -- 13 ref.go:128
              refine Rg_op rfl (op_assign (v := (Value.bool true)) rfl ?_)
              refine Rg_nil ?_
              refine Wp_ret ?_
              have hz := step_all hs372
              refine ⟨_, (show Closes [] _ _ from rfl), [(Value.bool true)], ⟨rfl, trivial⟩, hs372.ext, ?_⟩
              exact Vr.eq (a := vB) (x := true) rfl (Option.some.inj hm)
  ·
    intro K15 hK15
    have ch374 := Step.refl (ks [(some b6, Obj.cells [(Value.slice a_b_sectors b.sectors.length c_b_sectors), (Value.slice a_b_pending b.pending.length c_b_pending), (Value.int .i64 b.left), (Value.bool b.stopped)].toArray 25), (some b1, Obj.cells [(Value.slice a_a_sectors a.sectors.length c_a_sectors), (Value.slice a_a_pending a.pending.length c_a_pending), (Value.int .i64 a.left), (Value.bool a.stopped)].toArray 25)] O) w7
    refine Wp_region ?_  -- 1 ref.go:115
    refine Rg_op rfl (op_fieldAddr ty25 rfl ty22 (by decide) rfl (rfl : _ = (⟨_, 0, none⟩ : Addr)) ?_)
    refine Rg_op rfl (op_load (cs := [(Value.slice a_a_sectors a.sectors.length c_a_sectors), (Value.slice a_a_pending a.pending.length c_a_pending), (Value.int .i64 a.left), (Value.bool a.stopped)]) (i := 1) ty22 hs9 rfl rfl rfl ?_)
    refine Rg_op rfl (op_len Try.underlying22 rfl ?_)
    refine Rg_op rfl (op_fieldAddr ty25 rfl ty22 (by decide) rfl (rfl : _ = (⟨_, 0, none⟩ : Addr)) ?_)
    refine Rg_op rfl (op_load (cs := [(Value.slice a_b_sectors b.sectors.length c_b_sectors), (Value.slice a_b_pending b.pending.length c_b_pending), (Value.int .i64 b.left), (Value.bool b.stopped)]) (i := 0) ty22 hs9 rfl rfl rfl ?_)
    refine Rg_op rfl (op_len Try.underlying22 rfl ?_)
    refine Rg_op rfl (op_neq rfl rfl ?_)
    refine Rg_op rfl (op_move (v := (Value.bool (decide ((a.sectors.length : Int) ≠ (b.sectors.length : Int))))) rfl ?_)
    refine Rg_case (fun hg375 => ?_) (fun hg375 => ?_)
    ·
      replace hm := bif_t hm hg375
      refine Rg_opx rfl (asB_ne rfl rfl) rfl ?_
      refine Rg_opx rfl (asB_ne rfl rfl) rfl ?_
      refine Rg_opx rfl (asB_ne rfl rfl) rfl ?_
      refine Rg_opx rfl (asB_ne rfl rfl) rfl ?_
      refine Rg_opx rfl (asB_ne rfl rfl) rfl ?_
      refine Rg_opx rfl (asB_ne rfl rfl) rfl ?_
      refine Rg_opx rfl (asB_ne rfl rfl) rfl ?_
      refine Rg_op rfl (op_pick_t (v := (Value.bool true)) rfl rfl ?_)
      refine Rg_op rfl (op_move (v := (Value.bool true)) rfl ?_)
      refine Rg_opx rfl (asB_ne rfl rfl) rfl ?_
      refine Rg_opx rfl (asB_ne rfl rfl) rfl ?_
      refine Rg_opx rfl (asB_ne rfl rfl) rfl ?_
      refine Rg_opx rfl (asB_ne rfl rfl) rfl ?_
      refine Rg_opx rfl (asB_ne rfl rfl) rfl ?_
      refine Rg_op rfl (op_pick_t (v := (Value.bool true)) rfl rfl ?_)
      refine Rg_op rfl (op_move (v := (Value.bool true)) rfl ?_)
      refine Rg_opx rfl (asB_ne rfl rfl) rfl ?_
      refine Rg_opx rfl (asB_ne rfl rfl) rfl ?_
      refine Rg_opx rfl (asB_ne rfl rfl) rfl ?_
      refine Rg_opx rfl (asB_ne rfl rfl) rfl ?_
      refine Rg_opx rfl (asB_ne rfl rfl) rfl ?_
      refine Rg_op rfl (op_pick_t (v := (Value.bool true)) rfl rfl ?_)
      refine Rg_nil ?_
      exact hK15 _ _ ⟨true, _, rfl, ⟨(by repeat (first | with_reducible exact Out.refl _ _ | refine Out.upd ?_ rfl | refine Out.updL ?_ rfl | refine Out.mix' ?_ rfl | exact Out.refl _ _)), rfl, rfl, trivial⟩, ch374, hs9, hm⟩
    ·
      replace hm := bif_f hm hg375
      refine Rg_opg rfl rfl rfl (op_fieldAddr ty25 rfl ty23 (by decide) rfl (rfl : _ = (⟨_, 1, none⟩ : Addr)) ?_)
      refine Rg_opg rfl rfl rfl (op_load (cs := [(Value.slice a_a_sectors a.sectors.length c_a_sectors), (Value.slice a_a_pending a.pending.length c_a_pending), (Value.int .i64 a.left), (Value.bool a.stopped)]) (i := 1) ty23 hs9 rfl rfl rfl ?_)
      refine Rg_opg rfl rfl rfl (op_len Try.underlying23 rfl ?_)
      refine Rg_opg rfl rfl rfl (op_fieldAddr ty25 rfl ty23 (by decide) rfl (rfl : _ = (⟨_, 1, none⟩ : Addr)) ?_)
      refine Rg_opg rfl rfl rfl (op_load (cs := [(Value.slice a_b_sectors b.sectors.length c_b_sectors), (Value.slice a_b_pending b.pending.length c_b_pending), (Value.int .i64 b.left), (Value.bool b.stopped)]) (i := 0) ty23 hs9 rfl rfl rfl ?_)
      refine Rg_opg rfl rfl rfl (op_len Try.underlying23 rfl ?_)
      refine Rg_opg rfl rfl rfl (op_neq rfl rfl ?_)
      refine Rg_op rfl (op_pick_f (v := (Value.bool (decide ((a.pending.length : Int) ≠ (b.pending.length : Int))))) rfl rfl ?_)
      refine Rg_op rfl (op_move (v := (Value.bool (decide ((a.pending.length : Int) ≠ (b.pending.length : Int))))) rfl ?_)
      refine Rg_case (fun hg376 => ?_) (fun hg376 => ?_)
      ·
        replace hm := bif_t hm hg376
        refine Rg_opx rfl (asB_ne rfl rfl) rfl ?_
        refine Rg_opx rfl (asB_ne rfl rfl) rfl ?_
        refine Rg_opx rfl (asB_ne rfl rfl) rfl ?_
        refine Rg_opx rfl (asB_ne rfl rfl) rfl ?_
        refine Rg_opx rfl (asB_ne rfl rfl) rfl ?_
        refine Rg_op rfl (op_pick_t (v := (Value.bool true)) rfl rfl ?_)
        refine Rg_op rfl (op_move (v := (Value.bool true)) rfl ?_)
        refine Rg_opx rfl (asB_ne rfl rfl) rfl ?_
        refine Rg_opx rfl (asB_ne rfl rfl) rfl ?_
        refine Rg_opx rfl (asB_ne rfl rfl) rfl ?_
        refine Rg_opx rfl (asB_ne rfl rfl) rfl ?_
        refine Rg_opx rfl (asB_ne rfl rfl) rfl ?_
        refine Rg_op rfl (op_pick_t (v := (Value.bool true)) rfl rfl ?_)
        refine Rg_nil ?_
        exact hK15 _ _ ⟨true, _, rfl, ⟨(by repeat (first | with_reducible exact Out.refl _ _ | refine Out.upd ?_ rfl | refine Out.updL ?_ rfl | refine Out.mix' ?_ rfl | exact Out.refl _ _)), rfl, rfl, trivial⟩, ch374, hs9, hm⟩
      ·
        replace hm := bif_f hm hg376
        refine Rg_opg rfl rfl rfl (op_fieldAddr ty25 rfl ty3 (by decide) rfl (rfl : _ = (⟨_, 2, none⟩ : Addr)) ?_)
        refine Rg_opg rfl rfl rfl (op_load (cs := [(Value.slice a_a_sectors a.sectors.length c_a_sectors), (Value.slice a_a_pending a.pending.length c_a_pending), (Value.int .i64 a.left), (Value.bool a.stopped)]) (i := 1) ty3 hs9 rfl rfl rfl ?_)
        refine Rg_opg rfl rfl rfl (op_fieldAddr ty25 rfl ty3 (by decide) rfl (rfl : _ = (⟨_, 2, none⟩ : Addr)) ?_)
        refine Rg_opg rfl rfl rfl (op_load (cs := [(Value.slice a_b_sectors b.sectors.length c_b_sectors), (Value.slice a_b_pending b.pending.length c_b_pending), (Value.int .i64 b.left), (Value.bool b.stopped)]) (i := 0) ty3 hs9 rfl rfl rfl ?_)
        refine Rg_opg rfl rfl rfl (op_neq rfl rfl ?_)
        refine Rg_op rfl (op_pick_f (v := (Value.bool (decide (a.left ≠ b.left)))) rfl rfl ?_)
        refine Rg_op rfl (op_move (v := (Value.bool (decide (a.left ≠ b.left)))) rfl ?_)
        refine Rg_case (fun hg377 => ?_) (fun hg377 => ?_)
        ·
          replace hm := bif_t hm hg377
          refine Rg_opx rfl (asB_ne rfl rfl) rfl ?_
          refine Rg_opx rfl (asB_ne rfl rfl) rfl ?_
          refine Rg_opx rfl (asB_ne rfl rfl) rfl ?_
          refine Rg_opx rfl (asB_ne rfl rfl) rfl ?_
          refine Rg_opx rfl (asB_ne rfl rfl) rfl ?_
          refine Rg_op rfl (op_pick_t (v := (Value.bool true)) rfl rfl ?_)
          refine Rg_nil ?_
          exact hK15 _ _ ⟨true, _, rfl, ⟨(by repeat (first | with_reducible exact Out.refl _ _ | refine Out.upd ?_ rfl | refine Out.updL ?_ rfl | refine Out.mix' ?_ rfl | exact Out.refl _ _)), rfl, rfl, trivial⟩, ch374, hs9, hm⟩
        ·
          replace hm := bif_f hm hg377
          refine Rg_opg rfl rfl rfl (op_fieldAddr ty25 rfl ty4 (by decide) rfl (rfl : _ = (⟨_, 3, none⟩ : Addr)) ?_)
          refine Rg_opg rfl rfl rfl (op_load (cs := [(Value.slice a_a_sectors a.sectors.length c_a_sectors), (Value.slice a_a_pending a.pending.length c_a_pending), (Value.int .i64 a.left), (Value.bool a.stopped)]) (i := 1) ty4 hs9 rfl rfl rfl ?_)
          refine Rg_opg rfl rfl rfl (op_fieldAddr ty25 rfl ty4 (by decide) rfl (rfl : _ = (⟨_, 3, none⟩ : Addr)) ?_)
          refine Rg_opg rfl rfl rfl (op_load (cs := [(Value.slice a_b_sectors b.sectors.length c_b_sectors), (Value.slice a_b_pending b.pending.length c_b_pending), (Value.int .i64 b.left), (Value.bool b.stopped)]) (i := 0) ty4 hs9 rfl rfl rfl ?_)
          refine Rg_opg rfl rfl rfl (op_neqb Try.underlying4 rfl rfl ?_)
          refine Rg_op rfl (op_pick_f (v := (Value.bool (!(a.stopped == b.stopped)))) rfl rfl ?_)
          refine Rg_nil ?_
          exact hK15 _ _ ⟨(!(a.stopped == b.stopped)), _, rfl, ⟨(by repeat (first | with_reducible exact Out.refl _ _ | refine Out.upd ?_ rfl | refine Out.updL ?_ rfl | refine Out.mix' ?_ rfl | exact Out.refl _ _)), rfl, rfl, trivial⟩, ch374, hs9, hm⟩

end Go.Fx


set_option linter.unusedVariables false
set_option linter.unusedSimpArgs false
set_option maxRecDepth 100000
set_option maxHeartbeats 0
namespace Go.Fx
open Go Go.RowKit Go.Proofs
def m19_overflightref44_Check_B1 (d : XDisk) (sf41 : Int → Option Int) (i_2 : Int) : Option Int :=
  bif (decide (i_2 < (d.pending.length : Int))) then
    ck ((0 : Int) ≤ i_2 ∧ i_2 < (d.pending.length : Int)) <|
    jn (fun (v_2 : Bool) =>
      bif v_2 then
        some 440
      else
        sf41 (IntKind.wrap .i64 (i_2 + 1)))
    (fun k68 =>
      bif (decide (((d.pending.getD i_2.toNat default).at_) < 0)) then
        k68 true
      else
        bif (decide ((d.sectors.length : Int) ≤ ((d.pending.getD i_2.toNat default).at_))) then
          k68 true
        else
          k68 (decide ((((d.pending.getD i_2.toNat default).data).length : Int) ≠ 128)))
  else
    some 0

def m19_overflightref44_Check_B0 (d : XDisk) (sf21 : Int → Option Int) (i_1 : Int) : Option Int :=
  bif (decide (i_1 < (d.sectors.length : Int))) then
    ck ((0 : Int) ≤ i_1 ∧ i_1 < (d.sectors.length : Int)) <|
    bif (decide (((d.sectors.getD i_1.toNat default).length : Int) ≠ 128)) then
      some 440
    else
      sf21 (IntKind.wrap .i64 (i_1 + 1))
  else
    loop1 (m19_overflightref44_Check_B1 d) (((d.pending.length : Int) - 0).toNat + 1) 0

def m19_overflightref44_Check (d : XDisk) : Option Int :=
  jn (fun (v_1 : Bool) =>
    bif v_1 then
      some 440
    else
      loop1 (m19_overflightref44_Check_B0 d) (((d.sectors.length : Int) - 0).toNat + 1) 0)
  (fun k8 =>
    bif (decide ((d.sectors.length : Int) < 1)) then
      k8 true
    else
      bif (decide (4096 < (d.sectors.length : Int))) then
        k8 true
      else
        bif (decide (4096 < (d.pending.length : Int))) then
          k8 true
        else
          bif (decide (d.left < (-1))) then
            k8 true
          else
            k8 (decide (65536 < d.left)))

theorem c19_overflightref44_Check {w : World} {O : List Nat} {d : XDisk} {a_d_sectors : Option Addr} {c_d_sectors : Nat} {a_d_pending : Option Addr} {c_d_pending : Nat} (hO : ∀ k ∈ O, k < w.heap.size) (f_d_sectors : SlR (rSl rU8) w O a_d_sectors c_d_sectors d.sectors) (f_d_pending : SlR rXWrite w O a_d_pending c_d_pending d.pending) (r_d_left : InK .i64 d.left) {x : Int} (hm : m19_overflightref44_Check d = some x) :
    Ok Try.prog 19 [(Value.agg [(Value.slice a_d_sectors d.sectors.length c_d_sectors), (Value.slice a_d_pending d.pending.length c_d_pending), (Value.int .i64 d.left), (Value.bool d.stopped)].toArray)] w O (vI .i64) x := by
  unfold m19_overflightref44_Check at hm
  refine Fn_of_Wp (n := 71) (xs := [.tmp 2]) Try.func19 rfl Try.ntmps19 Try.results19 rfl ?_
  have hs := St.start hO
  refine Wp_seq ?_
  refine Wp_region ?_  -- 0 ref.go:7
  refine Rg_op rfl (op_box (cs := [(Value.slice a_d_sectors d.sectors.length c_d_sectors), (Value.slice a_d_pending d.pending.length c_d_pending), (Value.int .i64 d.left), (Value.bool d.stopped)]) hs rfl rfl ?_)
  intro b1 w2 _ p3 hs4
  replace f_d_sectors := f_d_sectors.step p3
  replace f_d_pending := f_d_pending.step p3
  clear p3
  refine Rg_op rfl (op_assign (v := (Value.int .i64 0)) rfl ?_)
  refine Rg_nil ?_
  refine Wp_seq ?_
  refine Wp_region ?_  -- 1 ref.go:8
  refine Rg_op rfl (op_fieldAddr ty25 rfl ty22 (by decide) rfl (rfl : _ = (⟨_, 0, none⟩ : Addr)) ?_)
  refine Rg_op rfl (op_load (cs := [(Value.slice a_d_sectors d.sectors.length c_d_sectors), (Value.slice a_d_pending d.pending.length c_d_pending), (Value.int .i64 d.left), (Value.bool d.stopped)]) (i := 0) ty22 hs4 rfl rfl rfl ?_)
  refine Rg_op rfl (op_len Try.underlying22 rfl ?_)
  refine Rg_op rfl (op_assign (v := (Value.int .i64 (d.sectors.length : Int))) rfl ?_)
  refine Rg_nil ?_
  refine Wp_seq ?_
  refine Wp_reset [] [(1, (Value.pointer (some ⟨b1, 0, none⟩))), (3, (Value.int .i64 (d.sectors.length : Int)))] rfl ⟨rfl, rfl, trivial⟩ fun ξ6 => ?_
  replace hm := jn_elim hm; obtain ⟨k8, hk9, hm⟩ := hm
  refine Wp_seqJ [10, 11, 12, 13, 14, 15, 16, 17, 18, 19, 20, 21, 22, 23, 24, 25, 26, 27, 28, 29, 30, 31] (fun fr w' => ∃ (v_1 : Bool) (Ebs : Ents), Ebs = [(some b1, Obj.cells [(Value.slice a_d_sectors d.sectors.length c_d_sectors), (Value.slice a_d_pending d.pending.length c_d_pending), (Value.int .i64 d.left), (Value.bool d.stopped)].toArray 25)] ∧ fr [] [(31, (Value.bool v_1))] ∧ Step (ks [(some b1, Obj.cells [(Value.slice a_d_sectors d.sectors.length c_d_sectors), (Value.slice a_d_pending d.pending.length c_d_pending), (Value.int .i64 d.left), (Value.bool d.stopped)].toArray 25)] O) w2 (ks Ebs O) w' ∧ St ⟨w, [], []⟩ O w' Ebs ∧ k8 v_1 = some x) ?_ ?_
  ·
    rintro ρ15 w11 ⟨v_1, Ebs, hEbs, hfr14, hst13, hs12, hm⟩
    replace hm := jnE1 hk9 hm
    subst hEbs; rw [hfr14.eq]; clear hfr14
    replace f_d_sectors := f_d_sectors.step hst13
    replace f_d_pending := f_d_pending.step hst13
    clear hst13 hs4
    refine Wp_cond rfl (fun hc16 => ?_) (fun hc16 => ?_)
    ·
      replace hm := bif_t hm hc16
      refine Wp_seq ?_
      obtain ⟨hs17, p18⟩ := hs12.sub (bs' := []) (.cons _ List.Sublist.slnil)
      clear f_d_sectors f_d_pending
      clear p18 hs12
      refine Wp_region ?_  -- 3 ref.go:10
      refine Rg_op rfl (op_assign (v := (Value.int .i64 440)) rfl ?_)
      refine Rg_nil ?_
      refine Wp_ret ?_
      have hz := step_all hs17
      refine ⟨_, (show Closes [] _ _ from rfl), [(Value.int .i64 440)], ⟨rfl, trivial⟩, hs17.ext, ?_⟩
      exact Vr.eq (a := (vI .i64)) (x := 440) ⟨rfl, (show InK .i64 440 from by decide)⟩ (Option.some.inj hm)
    ·
      replace hm := bif_f hm hc16
      refine Wp_skip ?_
      refine Wp_seq ?_
      refine Wp_seq ?_
      refine Wp_region ?_  -- 4 ref.go:12
      refine Rg_op rfl (op_assign (v := (Value.int .i64 0)) rfl ?_)
      refine Rg_nil ?_
      refine Wp_block ?_
      refine Wp_reset [] [(1, (Value.pointer (some ⟨b1, 0, none⟩))), (3, (Value.int .i64 (d.sectors.length : Int))), (4, (Value.int .i64 0))] rfl ⟨rfl, rfl, rfl, trivial⟩ fun ξ20 => ?_
      refine Wp_loopM [2, 4, 32, 33, 34, 35, 36, 37, 38, 39, 40, 41, 42, 43] (fun m fr w' => ∃ (i_1 : Int) (Ebs : Ents), Ebs = [(some b1, Obj.cells [(Value.slice a_d_sectors d.sectors.length c_d_sectors), (Value.slice a_d_pending d.pending.length c_d_pending), (Value.int .i64 d.left), (Value.bool d.stopped)].toArray 25)] ∧ fr [] [(4, (Value.int .i64 i_1))] ∧ Step (ks [(some b1, Obj.cells [(Value.slice a_d_sectors d.sectors.length c_d_sectors), (Value.slice a_d_pending d.pending.length c_d_pending), (Value.int .i64 d.left), (Value.bool d.stopped)].toArray 25)] O) w11 (ks Ebs O) w' ∧ St ⟨w, [], []⟩ O w' Ebs ∧ InK .i64 i_1 ∧ loop1 (m19_overflightref44_Check_B0 d) m i_1 = some x) (((d.sectors.length : Int) - 0).toNat + 1) ⟨0, _, rfl, ⟨Out.refl _ _, rfl, rfl, trivial⟩, Step.refl _ _, hs12, (show InK .i64 0 from by decide), hm⟩ ?_ ?_
      · rintro _ _ ⟨_, _, _, _, _, _, _, hm⟩; exact loop1_z hm
      · rintro m24 K23 hK23 ρ29 w25 ⟨i_1, Ebs, hEbs, hfr28, hst27, hs26, r_y19, hm⟩
        obtain ⟨sf21, hsf22, hm⟩ := loop1_s hm; unfold m19_overflightref44_Check_B0 at hm
        subst hEbs; rw [hfr28.eq]; clear hfr28
        replace f_d_sectors := f_d_sectors.step hst27
        replace f_d_pending := f_d_pending.step hst27
        have ch30 := hst27
        refine Wp_seq ?_
        refine Wp_seq ?_
        refine Wp_region ?_  -- 5 ref.go:12
        refine Rg_op rfl (op_move (v := (Value.int .i64 i_1)) rfl ?_)
        refine Rg_op rfl (op_move (v := (Value.int .i64 (d.sectors.length : Int))) rfl ?_)
        refine Rg_op rfl (op_lss rfl rfl ?_)
        refine Rg_nil ?_
        refine Wp_cond rfl (fun hc31 => ?_) (fun hc31 => ?_)
        ·
          replace hm := bif_t hm hc31
          refine Wp_skip ?_
          refine Wp_seq ?_
          refine Wp_block ?_
          refine Wp_seq ?_
          refine Wp_region ?_  -- 7 ref.go:13
          refine Rg_op rfl (op_fieldAddr ty25 rfl ty22 (by decide) rfl (rfl : _ = (⟨_, 0, none⟩ : Addr)) ?_)
          refine Rg_op rfl (op_load (cs := [(Value.slice a_d_sectors d.sectors.length c_d_sectors), (Value.slice a_d_pending d.pending.length c_d_pending), (Value.int .i64 d.left), (Value.bool d.stopped)]) (i := 0) ty22 hs26 rfl rfl rfl ?_)
          refine Rg_op rfl (op_move (v := (Value.int .i64 i_1)) rfl ?_)
          replace hm := ck_some hm; obtain ⟨hc32, hm⟩ := hm
          refine Rg_op rfl (op_indexAddr (q := (rSl rU8)) ty22 ty41 rfl rfl f_d_sectors rfl hc32.1 hc32.2 ?_)
          intro p33 f34
          refine Rg_op rfl (op_loadP ty41 rfl f34 rfl ?_)
          intro v35 h36
          obtain ⟨a_y37, c_y37, rfl, f_y37⟩ := un_sl h36
          refine Rg_op rfl (op_len Try.underlying41 rfl ?_)
          refine Rg_op rfl (op_neq rfl rfl ?_)
          refine Rg_nil ?_
          refine Wp_cond rfl (fun hc38 => ?_) (fun hc38 => ?_)
          ·
            replace hm := bif_t hm hc38
            refine Wp_seq ?_
            clear f34 f_y37
            refine Wp_region ?_  -- 8 ref.go:14
            refine Rg_op rfl (op_assign (v := (Value.int .i64 440)) rfl ?_)
            refine Rg_nil ?_
            refine Wp_ret ?_
            have hz := step_all hs26
            replace f_d_sectors := f_d_sectors.step hz
            replace f_d_pending := f_d_pending.step hz
            refine ⟨_, (show Closes [] _ _ from rfl), [(Value.int .i64 440)], ⟨rfl, trivial⟩, hs26.ext, ?_⟩
            exact Vr.eq (a := (vI .i64)) (x := 440) ⟨rfl, (show InK .i64 440 from by decide)⟩ (Option.some.inj hm)
          ·
            replace hm := bif_f hm hc38
            refine Wp_skip ?_
            clear f34 f_y37
            refine Wp_region ?_  -- 6 ref.go:12
            refine Rg_op rfl (op_move (v := (Value.int .i64 i_1)) rfl ?_)
            refine Rg_op rfl (op_addw rfl rfl ?_)
            refine Rg_op rfl (op_assign (v := (Value.int .i64 (IntKind.wrap .i64 (i_1 + 1)))) rfl ?_)
            refine Rg_nil ?_
            exact hK23 _ _ ⟨(IntKind.wrap .i64 (i_1 + 1)), _, rfl, ⟨(by repeat (first | with_reducible exact Out.refl _ _ | refine Out.upd ?_ rfl | refine Out.updL ?_ rfl | refine Out.mix' ?_ rfl | exact Out.refl _ _)), rfl, rfl, trivial⟩, ch30, hs26, (inK_wrap .i64 _), jnE1 hsf22 hm⟩
        ·
          replace hm := bif_f hm hc31
          refine Wp_exit ?_
          refine Wp_seq ?_
          refine Wp_seq ?_
          refine Wp_region ?_  -- 9 ref.go:17
          refine Rg_op rfl (op_assign (v := (Value.int .i64 0)) rfl ?_)
          refine Rg_nil ?_
          refine Wp_block ?_
          refine Wp_reset [] [(1, (Value.pointer (some ⟨b1, 0, none⟩))), (3, (Value.int .i64 (d.sectors.length : Int))), (5, (Value.int .i64 0))] rfl ⟨rfl, rfl, rfl, trivial⟩ fun ξ40 => ?_
          refine Wp_loopM [2, 5, 6, 44, 45, 46, 47, 48, 49, 50, 51, 52, 53, 54, 55, 56, 57, 58, 59, 60, 61, 62, 63, 64, 65, 66, 67, 68, 69, 70] (fun m fr w' => ∃ (i_2 : Int) (Ebs : Ents), Ebs = [(some b1, Obj.cells [(Value.slice a_d_sectors d.sectors.length c_d_sectors), (Value.slice a_d_pending d.pending.length c_d_pending), (Value.int .i64 d.left), (Value.bool d.stopped)].toArray 25)] ∧ fr [] [(5, (Value.int .i64 i_2))] ∧ Step (ks [(some b1, Obj.cells [(Value.slice a_d_sectors d.sectors.length c_d_sectors), (Value.slice a_d_pending d.pending.length c_d_pending), (Value.int .i64 d.left), (Value.bool d.stopped)].toArray 25)] O) w25 (ks Ebs O) w' ∧ St ⟨w, [], []⟩ O w' Ebs ∧ InK .i64 i_2 ∧ loop1 (m19_overflightref44_Check_B1 d) m i_2 = some x) (((d.pending.length : Int) - 0).toNat + 1) ⟨0, _, rfl, ⟨Out.refl _ _, rfl, rfl, trivial⟩, Step.refl _ _, hs26, (show InK .i64 0 from by decide), hm⟩ ?_ ?_
          · rintro _ _ ⟨_, _, _, _, _, _, _, hm⟩; exact loop1_z hm
          · rintro m44 K43 hK43 ρ49 w45 ⟨i_2, Ebs, hEbs, hfr48, hst47, hs46, r_y39, hm⟩
            obtain ⟨sf41, hsf42, hm⟩ := loop1_s hm; unfold m19_overflightref44_Check_B1 at hm
            subst hEbs; rw [hfr48.eq]; clear hfr48
            replace f_d_sectors := f_d_sectors.step hst47
            replace f_d_pending := f_d_pending.step hst47
            replace ch30 := ch30.trans hst47
            have ch50 := hst47
            refine Wp_seq ?_
            refine Wp_seq ?_
            refine Wp_region ?_  -- 10 ref.go:17
            refine Rg_op rfl (op_move (v := (Value.int .i64 i_2)) rfl ?_)
            refine Rg_op rfl (op_fieldAddr ty25 rfl ty23 (by decide) rfl (rfl : _ = (⟨_, 1, none⟩ : Addr)) ?_)
            refine Rg_op rfl (op_load (cs := [(Value.slice a_d_sectors d.sectors.length c_d_sectors), (Value.slice a_d_pending d.pending.length c_d_pending), (Value.int .i64 d.left), (Value.bool d.stopped)]) (i := 0) ty23 hs46 rfl rfl rfl ?_)
            refine Rg_op rfl (op_len Try.underlying23 rfl ?_)
            refine Rg_op rfl (op_lss rfl rfl ?_)
            refine Rg_nil ?_
            refine Wp_cond rfl (fun hc51 => ?_) (fun hc51 => ?_)
            ·
              replace hm := bif_t hm hc51
              refine Wp_skip ?_
              refine Wp_seq ?_
              refine Wp_block ?_
              refine Wp_seq ?_
              refine Wp_region ?_  -- 12 ref.go:18
              refine Rg_op rfl (op_fieldAddr ty25 rfl ty23 (by decide) rfl (rfl : _ = (⟨_, 1, none⟩ : Addr)) ?_)
              refine Rg_op rfl (op_load (cs := [(Value.slice a_d_sectors d.sectors.length c_d_sectors), (Value.slice a_d_pending d.pending.length c_d_pending), (Value.int .i64 d.left), (Value.bool d.stopped)]) (i := 0) ty23 hs46 rfl rfl rfl ?_)
              refine Rg_op rfl (op_move (v := (Value.int .i64 i_2)) rfl ?_)
              replace hm := ck_some hm; obtain ⟨hc52, hm⟩ := hm
              refine Rg_op rfl (op_indexAddr (q := rXWrite) ty23 ty73 rfl rfl f_d_pending rfl hc52.1 hc52.2 ?_)
              intro p53 f54
              refine Rg_op rfl (op_loadPA ty73 rfl f54 rfl ?_)
              intro vs55 h56
              obtain ⟨_, _, rfl, ⟨rfl, r_y57_at_⟩, ⟨a_y57_data, c_y57_data, rfl, f_y57_data⟩⟩ := h56
              refine Rg_op rfl (op_alloc ty73 hs46 ?_)
              intro b58 w59 _ p60 hs61
              replace f_d_sectors := f_d_sectors.step p60
              replace f_d_pending := f_d_pending.step p60
              replace f54 := f54.step p60
              replace f_y57_data := f_y57_data.step p60
              replace ch30 := ch30.trans p60
              replace ch50 := ch50.trans p60
              clear p60 hs46
              refine Rg_op_ (op_store (cs := [(Value.int .i64 0), (Value.slice none 0 0)]) (vs := [(Value.int .i64 ((d.pending.getD i_2.toNat default).at_)), (Value.slice a_y57_data ((d.pending.getD i_2.toNat default).data).length c_y57_data)]) (cs' := [(Value.int .i64 ((d.pending.getD i_2.toNat default).at_)), (Value.slice a_y57_data ((d.pending.getD i_2.toNat default).data).length c_y57_data)]) (bs' := [(some b58, Obj.cells [(Value.int .i64 ((d.pending.getD i_2.toNat default).at_)), (Value.slice a_y57_data ((d.pending.getD i_2.toNat default).data).length c_y57_data)].toArray 73), (some b1, Obj.cells [(Value.slice a_d_sectors d.sectors.length c_d_sectors), (Value.slice a_d_pending d.pending.length c_d_pending), (Value.int .i64 d.left), (Value.bool d.stopped)].toArray 25)]) (i := 0) ty73 hs61 rfl rfl rfl rfl rfl (le_lit rfl) rfl rfl rfl ?_)
              intro w63 p64 hs65
              replace f_d_sectors := f_d_sectors.step p64
              replace f_d_pending := f_d_pending.step p64
              replace f54 := f54.step p64
              replace f_y57_data := f_y57_data.step p64
              replace ch30 := ch30.trans p64
              replace ch50 := ch50.trans p64
              clear p64 hs61
              refine Rg_nil ?_
              refine Wp_reset2 [2, 5, 6, 44, 45, 46, 47, 48, 49, 50, 51, 52, 53, 54, 55, 56, 57, 58, 59, 60, 61, 62, 63, 64, 65, 66, 67, 68, 69, 70] [] (updL ⟨ξ40, []⟩ [(1, (Value.pointer (some ⟨b1, 0, none⟩))), (3, (Value.int .i64 (d.sectors.length : Int))), (5, (Value.int .i64 0))]) [(5, (Value.int .i64 i_2)), (6, (Value.pointer (some ⟨b58, 0, none⟩)))] (by repeat (first | with_reducible exact Out.refl _ _ | refine Out.upd ?_ rfl | refine Out.updL ?_ rfl | refine Out.mix' ?_ rfl | exact Out.refl _ _)) rfl ⟨rfl, rfl, trivial⟩ fun ξ66 => ?_
              replace hm := jn_elim hm; obtain ⟨k68, hk69, hm⟩ := hm
              refine Wp_seqJ [56, 57, 58, 59, 60, 61, 62, 63, 64, 65, 66, 67, 68, 69, 70] (fun fr w' => ∃ (v_2 : Bool) (Ebs : Ents), Ebs = [(some b58, Obj.cells [(Value.int .i64 ((d.pending.getD i_2.toNat default).at_)), (Value.slice a_y57_data ((d.pending.getD i_2.toNat default).data).length c_y57_data)].toArray 73), (some b1, Obj.cells [(Value.slice a_d_sectors d.sectors.length c_d_sectors), (Value.slice a_d_pending d.pending.length c_d_pending), (Value.int .i64 d.left), (Value.bool d.stopped)].toArray 25)] ∧ fr [] [(70, (Value.bool v_2))] ∧ Step (ks [(some b58, Obj.cells [(Value.int .i64 ((d.pending.getD i_2.toNat default).at_)), (Value.slice a_y57_data ((d.pending.getD i_2.toNat default).data).length c_y57_data)].toArray 73), (some b1, Obj.cells [(Value.slice a_d_sectors d.sectors.length c_d_sectors), (Value.slice a_d_pending d.pending.length c_d_pending), (Value.int .i64 d.left), (Value.bool d.stopped)].toArray 25)] O) w63 (ks Ebs O) w' ∧ St ⟨w, [], []⟩ O w' Ebs ∧ k68 v_2 = some x) ?_ ?_
              ·
                rintro ρ75 w71 ⟨v_2, Ebs, hEbs, hfr74, hst73, hs72, hm⟩
                replace hm := jnE1 hk69 hm
                subst hEbs; rw [hfr74.eq]; clear hfr74
                replace f_d_sectors := f_d_sectors.step hst73
                replace f_d_pending := f_d_pending.step hst73
                replace f54 := f54.step hst73
                replace f_y57_data := f_y57_data.step hst73
                replace ch30 := ch30.trans hst73
                replace ch50 := ch50.trans hst73
                clear hst73 hs65
                refine Wp_cond rfl (fun hc76 => ?_) (fun hc76 => ?_)
                ·
                  replace hm := bif_t hm hc76
                  refine Wp_seq ?_
                  clear f54
                  refine Wp_region ?_  -- 14 ref.go:20
                  refine Rg_op rfl (op_assign (v := (Value.int .i64 440)) rfl ?_)
                  refine Rg_nil ?_
                  refine Wp_ret ?_
                  have hz := step_all hs72
                  replace f_d_sectors := f_d_sectors.step hz
                  replace f_d_pending := f_d_pending.step hz
                  replace f_y57_data := f_y57_data.step hz
                  refine ⟨_, (show Closes [] _ _ from rfl), [(Value.int .i64 440)], ⟨rfl, trivial⟩, hs72.ext, ?_⟩
                  exact Vr.eq (a := (vI .i64)) (x := 440) ⟨rfl, (show InK .i64 440 from by decide)⟩ (Option.some.inj hm)
                ·
                  replace hm := bif_f hm hc76
                  refine Wp_skip ?_
                  clear f54
                  refine Wp_region ?_  -- 11 ref.go:17
                  refine Rg_op rfl (op_move (v := (Value.int .i64 i_2)) rfl ?_)
                  refine Rg_op rfl (op_addw rfl rfl ?_)
                  refine Rg_op rfl (op_assign (v := (Value.int .i64 (IntKind.wrap .i64 (i_2 + 1)))) rfl ?_)
                  refine Rg_nil ?_
                  have hs77 := hs72.drop 0
                  replace f_d_sectors := f_d_sectors.step (Step.drop _ _ [(some b58, Obj.cells [(Value.int .i64 ((d.pending.getD i_2.toNat default).at_)), (Value.slice a_y57_data ((d.pending.getD i_2.toNat default).data).length c_y57_data)].toArray 73), (some b1, Obj.cells [(Value.slice a_d_sectors d.sectors.length c_d_sectors), (Value.slice a_d_pending d.pending.length c_d_pending), (Value.int .i64 d.left), (Value.bool d.stopped)].toArray 25)] 0)
                  replace f_d_pending := f_d_pending.step (Step.drop _ _ [(some b58, Obj.cells [(Value.int .i64 ((d.pending.getD i_2.toNat default).at_)), (Value.slice a_y57_data ((d.pending.getD i_2.toNat default).data).length c_y57_data)].toArray 73), (some b1, Obj.cells [(Value.slice a_d_sectors d.sectors.length c_d_sectors), (Value.slice a_d_pending d.pending.length c_d_pending), (Value.int .i64 d.left), (Value.bool d.stopped)].toArray 25)] 0)
                  replace f_y57_data := f_y57_data.step (Step.drop _ _ [(some b58, Obj.cells [(Value.int .i64 ((d.pending.getD i_2.toNat default).at_)), (Value.slice a_y57_data ((d.pending.getD i_2.toNat default).data).length c_y57_data)].toArray 73), (some b1, Obj.cells [(Value.slice a_d_sectors d.sectors.length c_d_sectors), (Value.slice a_d_pending d.pending.length c_d_pending), (Value.int .i64 d.left), (Value.bool d.stopped)].toArray 25)] 0)
                  replace ch30 := ch30.trans (Step.drop _ _ [(some b58, Obj.cells [(Value.int .i64 ((d.pending.getD i_2.toNat default).at_)), (Value.slice a_y57_data ((d.pending.getD i_2.toNat default).data).length c_y57_data)].toArray 73), (some b1, Obj.cells [(Value.slice a_d_sectors d.sectors.length c_d_sectors), (Value.slice a_d_pending d.pending.length c_d_pending), (Value.int .i64 d.left), (Value.bool d.stopped)].toArray 25)] 0)
                  replace ch50 := ch50.trans (Step.drop _ _ [(some b58, Obj.cells [(Value.int .i64 ((d.pending.getD i_2.toNat default).at_)), (Value.slice a_y57_data ((d.pending.getD i_2.toNat default).data).length c_y57_data)].toArray 73), (some b1, Obj.cells [(Value.slice a_d_sectors d.sectors.length c_d_sectors), (Value.slice a_d_pending d.pending.length c_d_pending), (Value.int .i64 d.left), (Value.bool d.stopped)].toArray 25)] 0)
                  clear hs72
                  exact hK43 _ _ ⟨(IntKind.wrap .i64 (i_2 + 1)), _, rfl, ⟨(by repeat (first | with_reducible exact Out.refl _ _ | refine Out.upd ?_ rfl | refine Out.updL ?_ rfl | refine Out.mix' ?_ rfl | exact Out.refl _ _)), rfl, rfl, trivial⟩, ch50, hs77, (inK_wrap .i64 _), jnE1 hsf42 hm⟩
              ·
                intro K70 hK70
                have ch78 := Step.refl (ks [(some b58, Obj.cells [(Value.int .i64 ((d.pending.getD i_2.toNat default).at_)), (Value.slice a_y57_data ((d.pending.getD i_2.toNat default).data).length c_y57_data)].toArray 73), (some b1, Obj.cells [(Value.slice a_d_sectors d.sectors.length c_d_sectors), (Value.slice a_d_pending d.pending.length c_d_pending), (Value.int .i64 d.left), (Value.bool d.stopped)].toArray 25)] O) w63
                clear f54
                refine Wp_region ?_  -- 13 ref.go:19
                refine Rg_op rfl (op_fieldAddr ty73 rfl ty3 (by decide) rfl (rfl : _ = (⟨_, 0, none⟩ : Addr)) ?_)
                refine Rg_op rfl (op_load (cs := [(Value.int .i64 ((d.pending.getD i_2.toNat default).at_)), (Value.slice a_y57_data ((d.pending.getD i_2.toNat default).data).length c_y57_data)]) (i := 0) ty3 hs65 rfl rfl rfl ?_)
                refine Rg_op rfl (op_lss rfl rfl ?_)
                refine Rg_op rfl (op_move (v := (Value.bool (decide (((d.pending.getD i_2.toNat default).at_) < 0)))) rfl ?_)
                refine Rg_case (fun hg79 => ?_) (fun hg79 => ?_)
                ·
                  replace hm := bif_t hm hg79
                  refine Rg_opx rfl (asB_ne rfl rfl) rfl ?_
                  refine Rg_opx rfl (asB_ne rfl rfl) rfl ?_
                  refine Rg_opx rfl (asB_ne rfl rfl) rfl ?_
                  refine Rg_opx rfl (asB_ne rfl rfl) rfl ?_
                  refine Rg_op rfl (op_pick_t (v := (Value.bool true)) rfl rfl ?_)
                  refine Rg_op rfl (op_move (v := (Value.bool true)) rfl ?_)
                  refine Rg_opx rfl (asB_ne rfl rfl) rfl ?_
                  refine Rg_opx rfl (asB_ne rfl rfl) rfl ?_
                  refine Rg_opx rfl (asB_ne rfl rfl) rfl ?_
                  refine Rg_opx rfl (asB_ne rfl rfl) rfl ?_
                  refine Rg_op rfl (op_pick_t (v := (Value.bool true)) rfl rfl ?_)
                  refine Rg_nil ?_
                  exact hK70 _ _ ⟨true, _, rfl, ⟨(by repeat (first | with_reducible exact Out.refl _ _ | refine Out.upd ?_ rfl | refine Out.updL ?_ rfl | refine Out.mix' ?_ rfl | exact Out.refl _ _)), rfl, rfl, trivial⟩, ch78, hs65, hm⟩
                ·
                  replace hm := bif_f hm hg79
                  refine Rg_opg rfl rfl rfl (op_fieldAddr ty73 rfl ty3 (by decide) rfl (rfl : _ = (⟨_, 0, none⟩ : Addr)) ?_)
                  refine Rg_opg rfl rfl rfl (op_load (cs := [(Value.int .i64 ((d.pending.getD i_2.toNat default).at_)), (Value.slice a_y57_data ((d.pending.getD i_2.toNat default).data).length c_y57_data)]) (i := 0) ty3 hs65 rfl rfl rfl ?_)
                  refine Rg_opg rfl rfl rfl (op_move (v := (Value.int .i64 (d.sectors.length : Int))) rfl ?_)
                  refine Rg_opg rfl rfl rfl (op_geq rfl rfl ?_)
                  refine Rg_op rfl (op_pick_f (v := (Value.bool (decide ((d.sectors.length : Int) ≤ ((d.pending.getD i_2.toNat default).at_))))) rfl rfl ?_)
                  refine Rg_op rfl (op_move (v := (Value.bool (decide ((d.sectors.length : Int) ≤ ((d.pending.getD i_2.toNat default).at_))))) rfl ?_)
                  refine Rg_case (fun hg80 => ?_) (fun hg80 => ?_)
                  ·
                    replace hm := bif_t hm hg80
                    refine Rg_opx rfl (asB_ne rfl rfl) rfl ?_
                    refine Rg_opx rfl (asB_ne rfl rfl) rfl ?_
                    refine Rg_opx rfl (asB_ne rfl rfl) rfl ?_
                    refine Rg_opx rfl (asB_ne rfl rfl) rfl ?_
                    refine Rg_op rfl (op_pick_t (v := (Value.bool true)) rfl rfl ?_)
                    refine Rg_nil ?_
                    exact hK70 _ _ ⟨true, _, rfl, ⟨(by repeat (first | with_reducible exact Out.refl _ _ | refine Out.upd ?_ rfl | refine Out.updL ?_ rfl | refine Out.mix' ?_ rfl | exact Out.refl _ _)), rfl, rfl, trivial⟩, ch78, hs65, hm⟩
                  ·
                    replace hm := bif_f hm hg80
                    refine Rg_opg rfl rfl rfl (op_fieldAddr ty73 rfl ty41 (by decide) rfl (rfl : _ = (⟨_, 1, none⟩ : Addr)) ?_)
                    refine Rg_opg rfl rfl rfl (op_load (cs := [(Value.int .i64 ((d.pending.getD i_2.toNat default).at_)), (Value.slice a_y57_data ((d.pending.getD i_2.toNat default).data).length c_y57_data)]) (i := 0) ty41 hs65 rfl rfl rfl ?_)
                    refine Rg_opg rfl rfl rfl (op_len Try.underlying41 rfl ?_)
                    refine Rg_opg rfl rfl rfl (op_neq rfl rfl ?_)
                    refine Rg_op rfl (op_pick_f (v := (Value.bool (decide ((((d.pending.getD i_2.toNat default).data).length : Int) ≠ 128)))) rfl rfl ?_)
                    refine Rg_nil ?_
                    exact hK70 _ _ ⟨(decide ((((d.pending.getD i_2.toNat default).data).length : Int) ≠ 128)), _, rfl, ⟨(by repeat (first | with_reducible exact Out.refl _ _ | refine Out.upd ?_ rfl | refine Out.updL ?_ rfl | refine Out.mix' ?_ rfl | exact Out.refl _ _)), rfl, rfl, trivial⟩, ch78, hs65, hm⟩
            ·
              replace hm := bif_f hm hc51
              refine Wp_exit ?_
              refine Wp_seq ?_
              obtain ⟨hs81, p82⟩ := hs46.sub (bs' := []) (.cons _ List.Sublist.slnil)
              clear f_d_sectors f_d_pending
              replace ch30 := ch30.trans p82
              replace ch50 := ch50.trans p82
              clear p82 hs46
              refine Wp_region ?_  -- 15 ref.go:23
              refine Rg_op rfl (op_assign (v := (Value.int .i64 0)) rfl ?_)
              refine Rg_nil ?_
              refine Wp_ret ?_
              have hz := step_all hs81
              refine ⟨_, (show Closes [] _ _ from rfl), [(Value.int .i64 0)], ⟨rfl, trivial⟩, hs81.ext, ?_⟩
              exact Vr.eq (a := (vI .i64)) (x := 0) ⟨rfl, (show InK .i64 0 from by decide)⟩ (Option.some.inj hm)
  ·
    intro K10 hK10
    have ch83 := Step.refl (ks [(some b1, Obj.cells [(Value.slice a_d_sectors d.sectors.length c_d_sectors), (Value.slice a_d_pending d.pending.length c_d_pending), (Value.int .i64 d.left), (Value.bool d.stopped)].toArray 25)] O) w2
    refine Wp_region ?_  -- 2 ref.go:9
    refine Rg_op rfl (op_move (v := (Value.int .i64 (d.sectors.length : Int))) rfl ?_)
    refine Rg_op rfl (op_lss rfl rfl ?_)
    refine Rg_op rfl (op_move (v := (Value.bool (decide ((d.sectors.length : Int) < 1)))) rfl ?_)
    refine Rg_case (fun hg84 => ?_) (fun hg84 => ?_)
    ·
      replace hm := bif_t hm hg84
      refine Rg_opx rfl (asB_ne rfl rfl) rfl ?_
      refine Rg_opx rfl (asB_ne rfl rfl) rfl ?_
      refine Rg_op rfl (op_pick_t (v := (Value.bool true)) rfl rfl ?_)
      refine Rg_op rfl (op_move (v := (Value.bool true)) rfl ?_)
      refine Rg_opx rfl (asB_ne rfl rfl) rfl ?_
      refine Rg_opx rfl (asB_ne rfl rfl) rfl ?_
      refine Rg_opx rfl (asB_ne rfl rfl) rfl ?_
      refine Rg_opx rfl (asB_ne rfl rfl) rfl ?_
      refine Rg_op rfl (op_pick_t (v := (Value.bool true)) rfl rfl ?_)
      refine Rg_op rfl (op_move (v := (Value.bool true)) rfl ?_)
      refine Rg_opx rfl (asB_ne rfl rfl) rfl ?_
      refine Rg_opx rfl (asB_ne rfl rfl) rfl ?_
      refine Rg_opx rfl (asB_ne rfl rfl) rfl ?_
      refine Rg_op rfl (op_pick_t (v := (Value.bool true)) rfl rfl ?_)
      refine Rg_op rfl (op_move (v := (Value.bool true)) rfl ?_)
      refine Rg_opx rfl (asB_ne rfl rfl) rfl ?_
      refine Rg_opx rfl (asB_ne rfl rfl) rfl ?_
      refine Rg_opx rfl (asB_ne rfl rfl) rfl ?_
      refine Rg_op rfl (op_pick_t (v := (Value.bool true)) rfl rfl ?_)
      refine Rg_nil ?_
      exact hK10 _ _ ⟨true, _, rfl, ⟨(by repeat (first | with_reducible exact Out.refl _ _ | refine Out.upd ?_ rfl | refine Out.updL ?_ rfl | refine Out.mix' ?_ rfl | exact Out.refl _ _)), rfl, rfl, trivial⟩, ch83, hs4, hm⟩
    ·
      replace hm := bif_f hm hg84
      refine Rg_opg rfl rfl rfl (op_move (v := (Value.int .i64 (d.sectors.length : Int))) rfl ?_)
      refine Rg_opg rfl rfl rfl (op_gtr rfl rfl ?_)
      refine Rg_op rfl (op_pick_f (v := (Value.bool (decide (4096 < (d.sectors.length : Int))))) rfl rfl ?_)
      refine Rg_op rfl (op_move (v := (Value.bool (decide (4096 < (d.sectors.length : Int))))) rfl ?_)
      refine Rg_case (fun hg85 => ?_) (fun hg85 => ?_)
      ·
        replace hm := bif_t hm hg85
        refine Rg_opx rfl (asB_ne rfl rfl) rfl ?_
        refine Rg_opx rfl (asB_ne rfl rfl) rfl ?_
        refine Rg_opx rfl (asB_ne rfl rfl) rfl ?_
        refine Rg_opx rfl (asB_ne rfl rfl) rfl ?_
        refine Rg_op rfl (op_pick_t (v := (Value.bool true)) rfl rfl ?_)
        refine Rg_op rfl (op_move (v := (Value.bool true)) rfl ?_)
        refine Rg_opx rfl (asB_ne rfl rfl) rfl ?_
        refine Rg_opx rfl (asB_ne rfl rfl) rfl ?_
        refine Rg_opx rfl (asB_ne rfl rfl) rfl ?_
        refine Rg_op rfl (op_pick_t (v := (Value.bool true)) rfl rfl ?_)
        refine Rg_op rfl (op_move (v := (Value.bool true)) rfl ?_)
        refine Rg_opx rfl (asB_ne rfl rfl) rfl ?_
        refine Rg_opx rfl (asB_ne rfl rfl) rfl ?_
        refine Rg_opx rfl (asB_ne rfl rfl) rfl ?_
        refine Rg_op rfl (op_pick_t (v := (Value.bool true)) rfl rfl ?_)
        refine Rg_nil ?_
        exact hK10 _ _ ⟨true, _, rfl, ⟨(by repeat (first | with_reducible exact Out.refl _ _ | refine Out.upd ?_ rfl | refine Out.updL ?_ rfl | refine Out.mix' ?_ rfl | exact Out.refl _ _)), rfl, rfl, trivial⟩, ch83, hs4, hm⟩
      ·
        replace hm := bif_f hm hg85
        refine Rg_opg rfl rfl rfl (op_fieldAddr ty25 rfl ty23 (by decide) rfl (rfl : _ = (⟨_, 1, none⟩ : Addr)) ?_)
        refine Rg_opg rfl rfl rfl (op_load (cs := [(Value.slice a_d_sectors d.sectors.length c_d_sectors), (Value.slice a_d_pending d.pending.length c_d_pending), (Value.int .i64 d.left), (Value.bool d.stopped)]) (i := 0) ty23 hs4 rfl rfl rfl ?_)
        refine Rg_opg rfl rfl rfl (op_len Try.underlying23 rfl ?_)
        refine Rg_opg rfl rfl rfl (op_gtr rfl rfl ?_)
        refine Rg_op rfl (op_pick_f (v := (Value.bool (decide (4096 < (d.pending.length : Int))))) rfl rfl ?_)
        refine Rg_op rfl (op_move (v := (Value.bool (decide (4096 < (d.pending.length : Int))))) rfl ?_)
        refine Rg_case (fun hg86 => ?_) (fun hg86 => ?_)
        ·
          replace hm := bif_t hm hg86
          refine Rg_opx rfl (asB_ne rfl rfl) rfl ?_
          refine Rg_opx rfl (asB_ne rfl rfl) rfl ?_
          refine Rg_opx rfl (asB_ne rfl rfl) rfl ?_
          refine Rg_op rfl (op_pick_t (v := (Value.bool true)) rfl rfl ?_)
          refine Rg_op rfl (op_move (v := (Value.bool true)) rfl ?_)
          refine Rg_opx rfl (asB_ne rfl rfl) rfl ?_
          refine Rg_opx rfl (asB_ne rfl rfl) rfl ?_
          refine Rg_opx rfl (asB_ne rfl rfl) rfl ?_
          refine Rg_op rfl (op_pick_t (v := (Value.bool true)) rfl rfl ?_)
          refine Rg_nil ?_
          exact hK10 _ _ ⟨true, _, rfl, ⟨(by repeat (first | with_reducible exact Out.refl _ _ | refine Out.upd ?_ rfl | refine Out.updL ?_ rfl | refine Out.mix' ?_ rfl | exact Out.refl _ _)), rfl, rfl, trivial⟩, ch83, hs4, hm⟩
        ·
          replace hm := bif_f hm hg86
          refine Rg_opg rfl rfl rfl (op_fieldAddr ty25 rfl ty3 (by decide) rfl (rfl : _ = (⟨_, 2, none⟩ : Addr)) ?_)
          refine Rg_opg rfl rfl rfl (op_load (cs := [(Value.slice a_d_sectors d.sectors.length c_d_sectors), (Value.slice a_d_pending d.pending.length c_d_pending), (Value.int .i64 d.left), (Value.bool d.stopped)]) (i := 0) ty3 hs4 rfl rfl rfl ?_)
          refine Rg_opg rfl rfl rfl (op_lss rfl rfl ?_)
          refine Rg_op rfl (op_pick_f (v := (Value.bool (decide (d.left < (-1))))) rfl rfl ?_)
          refine Rg_op rfl (op_move (v := (Value.bool (decide (d.left < (-1))))) rfl ?_)
          refine Rg_case (fun hg87 => ?_) (fun hg87 => ?_)
          ·
            replace hm := bif_t hm hg87
            refine Rg_opx rfl (asB_ne rfl rfl) rfl ?_
            refine Rg_opx rfl (asB_ne rfl rfl) rfl ?_
            refine Rg_opx rfl (asB_ne rfl rfl) rfl ?_
            refine Rg_op rfl (op_pick_t (v := (Value.bool true)) rfl rfl ?_)
            refine Rg_nil ?_
            exact hK10 _ _ ⟨true, _, rfl, ⟨(by repeat (first | with_reducible exact Out.refl _ _ | refine Out.upd ?_ rfl | refine Out.updL ?_ rfl | refine Out.mix' ?_ rfl | exact Out.refl _ _)), rfl, rfl, trivial⟩, ch83, hs4, hm⟩
          ·
            replace hm := bif_f hm hg87
            refine Rg_opg rfl rfl rfl (op_fieldAddr ty25 rfl ty3 (by decide) rfl (rfl : _ = (⟨_, 2, none⟩ : Addr)) ?_)
            refine Rg_opg rfl rfl rfl (op_load (cs := [(Value.slice a_d_sectors d.sectors.length c_d_sectors), (Value.slice a_d_pending d.pending.length c_d_pending), (Value.int .i64 d.left), (Value.bool d.stopped)]) (i := 0) ty3 hs4 rfl rfl rfl ?_)
            refine Rg_opg rfl rfl rfl (op_gtr rfl rfl ?_)
            refine Rg_op rfl (op_pick_f (v := (Value.bool (decide (65536 < d.left)))) rfl rfl ?_)
            refine Rg_nil ?_
            exact hK10 _ _ ⟨(decide (65536 < d.left)), _, rfl, ⟨(by repeat (first | with_reducible exact Out.refl _ _ | refine Out.upd ?_ rfl | refine Out.updL ?_ rfl | refine Out.mix' ?_ rfl | exact Out.refl _ _)), rfl, rfl, trivial⟩, ch83, hs4, hm⟩

end Go.Fx


/- The plain laws of chapter 44. -/
set_option linter.unusedSimpArgs false
set_option linter.unusedVariables false
namespace Go.Fx
open Go Go.RowKit
theorem sane_eq : m13_overflightlaw44_sane = some true := by kernel_rfl

/-- the first index from i where g holds, or -1 -/
def fidx {α} (g : α → Bool) : Nat → List α → Int
  | _, [] => -1
  | i, x :: t => bif g x then (i : Int) else fidx g (i + 1) t
theorem fidx_any {α} (g : α → Bool) (l : List α) (i : Nat) : decide (0 ≤ fidx g i l) = l.any g := by
  induction l generalizing i with
  | nil => rfl
  | cons x t ih => cases h : g x <;> simp [fidx, h, ih]
theorem m44_eq (s : List XWrite) (f : XWrite → Option Bool) (g : XWrite → Bool) (hf : ∀ x, f x = some (g x)) (hl : s.length < 9223372036854775807) : m44_api_Write_ s f = some (s.any g) := by
  have : m65_api_Write_ s f = some (fidx g 0 s) := by
    unfold m65_api_Write_
    refine up_listI (fun i t => some (fidx g i t)) s hl ?_ ?_ (by omega)
    · intro sf; unfold m65_api_Write__B0; simp [fidx]
    · intro sf i x t h1 h2 h3 ih; unfold m65_api_Write__B0; obtain ⟨_, rfl⟩ := List.getElem?_eq_some_iff.1 h2; cases h : g s[i] <;> simp [h1, h3, ih, hf, h, fidx, ck_eq]
  unfold m44_api_Write_; rw [this]; simp [fidx_any]
theorem m45_eq (s : List (List UInt8)) (f : List UInt8 → Option Bool) (g : List UInt8 → Bool) (hf : ∀ x, f x = some (g x)) (hl : s.length < 9223372036854775807) : m45_slices_ContainsFuncbyte_byte_ s f = some (s.any g) := by
  have : m66_slices_IndexFuncbyte_byte_ s f = some (fidx g 0 s) := by
    unfold m66_slices_IndexFuncbyte_byte_
    refine up_listI (fun i t => some (fidx g i t)) s hl ?_ ?_ (by omega)
    · intro sf; unfold m66_slices_IndexFuncbyte_byte__B0; simp [fidx]
    · intro sf i x t h1 h2 h3 ih; unfold m66_slices_IndexFuncbyte_byte__B0; obtain ⟨_, rfl⟩ := List.getElem?_eq_some_iff.1 h2; cases h : g s[i] <;> simp [h1, h3, ih, hf, h, fidx, ck_eq]
  unfold m45_slices_ContainsFuncbyte_byte_; rw [this]; simp [fidx_any]

def secBad (b : List UInt8) : Bool := !decide (b.length = 128)
def wrBad (n : Nat) (w : XWrite) : Bool := decide (w.at_ < 0) || decide ((n : Int) ≤ w.at_) || !decide (w.data.length = 128)
/-- what Check answers -/
def chk (d : XDisk) : Bool := !(decide ((d.sectors.length : Int) < 1) || decide (4096 < (d.sectors.length : Int)) || decide (4096 < (d.pending.length : Int)) || decide (d.left < -1) || decide (65536 < d.left) || d.pending.any (wrBad d.sectors.length) || d.sectors.any secBad)
def lim : Nat := 140737488351232
structure Few' (d : XDisk) : Prop where
  s : d.sectors.length < 9223372036854775807
  p : d.pending.length < 9223372036854775807
theorem m18_eq (d : XDisk) (h : Few' d) : m18_disk_Check d = some (bif chk d then 0 else 440) := by
  unfold m18_disk_Check
  rw [m44_eq _ _ (wrBad d.sectors.length) _ h.p, m45_eq _ _ secBad _ h.s]
  · unfold chk
    simp only [jn_eq, Option.bind_some]
    cases decide ((d.sectors.length : Int) < 1) <;> cases decide (4096 < (d.sectors.length : Int)) <;> cases decide (4096 < (d.pending.length : Int)) <;> cases decide (d.left < -1) <;> cases decide (65536 < d.left) <;> cases d.pending.any (wrBad d.sectors.length) <;> cases d.sectors.any secBad <;> rfl
  · intro x; simp [m46_disk_Check_2, m43_disk_isSector, secBad]; omega
  · intro w; simp only [m42_disk_Check_1, m43_disk_isSector, wrBad]
    by_cases h1 : w.at_ < 0 <;> by_cases h2 : (d.sectors.length : Int) ≤ w.at_ <;> by_cases h3 : w.data.length = 128 <;> simp [h1, h2, h3] <;> omega
theorem m19_eq (d : XDisk) (h : Few' d) : m19_overflightref44_Check d = some (bif chk d then 0 else 440) := by
  unfold m19_overflightref44_Check
  have e1 : loop1 (m19_overflightref44_Check_B1 d) (((d.pending.length : Int) - 0).toNat + 1) 0 = some (bif d.pending.any (wrBad d.sectors.length) then 440 else 0) := by
    refine up_list0 (fun t => some (bif t.any (wrBad d.sectors.length) then 440 else 0)) d.pending h.p ?_ ?_ (by simp)
    · intro sf; simp [m19_overflightref44_Check_B1]
    · intro sf i x t h1 h2 h3 ih; obtain ⟨_, rfl⟩ := List.getElem?_eq_some_iff.1 h2
      unfold m19_overflightref44_Check_B1
      simp only [wrBad, List.any_cons]
      have k4 : ((d.pending[i].data.length : Int) = 128) = (d.pending[i].data.length = 128) := by apply propext; omega
      by_cases k1 : (d.pending[i]).at_ < 0 <;> by_cases k2 : (d.sectors.length : Int) ≤ (d.pending[i]).at_ <;> by_cases k3 : (d.pending[i]).data.length = 128 <;> simp [h1, h3, ih, k1, k2, k3, k4, ck_eq, wrBad]
  have e0 : loop1 (m19_overflightref44_Check_B0 d) (((d.sectors.length : Int) - 0).toNat + 1) 0 = some (bif d.sectors.any secBad then 440 else bif d.pending.any (wrBad d.sectors.length) then 440 else 0) := by
    refine up_list0 (fun t => some (bif t.any secBad then 440 else bif d.pending.any (wrBad d.sectors.length) then 440 else 0)) d.sectors h.s ?_ ?_ (by simp)
    · intro sf; unfold m19_overflightref44_Check_B0; rw [e1]; simp
    · intro sf i x t h1 h2 h3 ih; obtain ⟨_, rfl⟩ := List.getElem?_eq_some_iff.1 h2
      unfold m19_overflightref44_Check_B0
      rw [e1]
      have k4 : ((d.sectors[i].length : Int) = 128) = (d.sectors[i].length = 128) := by apply propext; omega
      by_cases k3 : (d.sectors[i]).length = 128 <;> simp [h1, h3, ih, k3, k4, ck_eq, secBad]
  rw [e0]
  unfold chk
  simp only [jn_eq, Option.bind_some]
  cases decide ((d.sectors.length : Int) < 1) <;> cases decide (4096 < (d.sectors.length : Int)) <;> cases decide (4096 < (d.pending.length : Int)) <;> cases decide (d.left < -1) <;> cases decide (65536 < d.left) <;> cases d.pending.any (wrBad d.sectors.length) <;> cases d.sectors.any secBad <;> rfl
theorem m17_refl (a : XDisk) (h : Few' a) : m17_overflightref44_Same a a = some true := by
  unfold m17_overflightref44_Same
  have e1 : loop1 (m17_overflightref44_Same_B1 a a) (((a.pending.length : Int) - 0).toNat + 1) 0 = some true := by
    refine up_list0 (fun t => some true) a.pending h.p ?_ ?_ (by simp)
    · intro sf; simp [m17_overflightref44_Same_B1]
    · intro sf i x t h1 h2 h3 ih; obtain ⟨_, rfl⟩ := List.getElem?_eq_some_iff.1 h2
      unfold m17_overflightref44_Same_B1
      simp [h1, h3, ih, ck_eq]
  have e0 : loop1 (m17_overflightref44_Same_B0 a a) (((a.sectors.length : Int) - 0).toNat + 1) 0 = some true := by
    refine up_list0 (fun t => some true) a.sectors h.s ?_ ?_ (by simp)
    · intro sf; unfold m17_overflightref44_Same_B0; rw [e1]; simp
    · intro sf i x t h1 h2 h3 ih; obtain ⟨_, rfl⟩ := List.getElem?_eq_some_iff.1 h2
      unfold m17_overflightref44_Same_B0
      simp [h1, h3, ih, ck_eq]
  rw [e0]; simp
theorem up_while {σ R : Type} {L : Nat → σ → Option R} (μ : σ → Nat) (I : σ → Prop) (T : σ → Option R)
    (hS : ∀ n s, I s → (∀ s', I s' → μ s' < μ s → L n s' = T s') → L (n + 1) s = T s) : ∀ fuel s, I s → μ s < fuel → L fuel s = T s := by
  intro fuel
  induction fuel with
  | zero => intro s _ h; omega
  | succ n ih => intro s hI hf; exact hS n s hI fun s' hI' hm => ih s' hI' (by omega)
theorem up_ex {σ R : Type} {L : Nat → σ → Option R} (μ : σ → Nat) (I : σ → Prop) (Q : Option R → Prop)
    (hS : ∀ n s, I s → (∀ s', I s' → μ s' < μ s → Q (L n s')) → Q (L (n + 1) s)) : ∀ fuel s, I s → μ s < fuel → Q (L fuel s) := by
  intro fuel
  induction fuel with
  | zero => intro s _ h; omega
  | succ n ih => intro s hI hf; exact hS n s hI fun s' hI' hm => ih s' hI' (by omega)
/-- the disk is small -/
theorem m14_tot (d : XDisk) (h1 : d.sectors.length ≤ 140737488351232) (h2 : ∀ s ∈ d.sectors, s.length ≤ 140737488351232) (h3 : d.pending.length ≤ 140737488351232) (h4 : ∀ w ∈ d.pending, w.data.length ≤ 140737488351232) : ∃ b, m14_overflightref44_Few d = some b := by
  have e1 : ∀ n : Int, 0 ≤ n → n ≤ 140737488361232 → ∃ b, loop2 (m14_overflightref44_Few_B1 d) 1000000 n 0 = some b := by
    intro n hn hm
    refine up_ex (σ := Int × Nat) (L := fun k s => loop2 (m14_overflightref44_Few_B1 d) k s.1 s.2) (fun s => (9001 - s.1).toNat) (fun s => 0 ≤ s.1 ∧ s.1 ≤ 140737488361232 ∧ s.2 ≤ d.pending.length) (fun r => ∃ b, r = some b) ?_ _ (n, 0) ⟨hn, hm, by simp⟩ (by show (9001 - n).toNat < _; omega)
    rintro k ⟨n, i⟩ ⟨hn, hm, hi⟩ ih
    simp only at hn hm hi ih ⊢
    rw [loop2_succ]
    generalize loop2 (m14_overflightref44_Few_B1 d) k = sf at ih ⊢
    unfold m14_overflightref44_Few_B1
    by_cases a1 : i < d.pending.length <;> by_cases a2 : n ≤ 9000
    · have hl := h4 d.pending[i] (List.getElem_mem a1)
      have w1 : IntKind.i64.wrap (n + 1) = n + 1 := wrap_i64 (by omega) (by omega)
      have w2 : IntKind.i64.wrap (n + 1 + (d.pending[i].data.length : Int)) = n + 1 + (d.pending[i].data.length : Int) := wrap_i64 (by omega) (by omega)
      have w3 : IntKind.i64.wrap ((i : Int) + 1) = ((i + 1 : Nat) : Int) := (wrapS (by omega)).trans (by omega)
      obtain ⟨b, hb⟩ := ih (n + 1 + (d.pending[i].data.length : Int), i + 1) (by simp only; omega) (by simp only; omega)
      refine ⟨b, ?_⟩
      have g : d.pending.getD (i : Int).toNat default = d.pending[i] := by simp [a1]
      have c : (i : Int) < (d.pending.length : Int) := by omega
      simp only [jn_eq, c, a2, decide_true, cond_true, g, w1, w2, w3]
      rw [ck_eq (by simp)]; exact hb
    · simp [a1, a2]
    · simp [a1, a2]
    · simp [a1, a2]
  refine up_ex (σ := Int × Nat) (L := fun k s => loop2 (m14_overflightref44_Few_B0 d) k s.1 s.2) (fun s => (9001 - s.1).toNat) (fun s => 0 ≤ s.1 ∧ s.1 ≤ 140737488361232 ∧ s.2 ≤ d.sectors.length) (fun r => ∃ b, r = some b) ?_ _ (0, 0) ⟨by simp, by simp, by simp⟩ (by decide)
  rintro k ⟨n, i⟩ ⟨hn, hm, hi⟩ ih
  simp only at hn hm hi ih ⊢
  rw [loop2_succ]
  generalize loop2 (m14_overflightref44_Few_B0 d) k = sf at ih ⊢
  obtain ⟨b1, hb1⟩ := e1 n hn hm
  unfold m14_overflightref44_Few_B0
  rw [hb1]
  by_cases a1 : i < d.sectors.length <;> by_cases a2 : n ≤ 9000
  · have hl := h2 d.sectors[i] (List.getElem_mem a1)
    have w1 : IntKind.i64.wrap (n + 1) = n + 1 := wrap_i64 (by omega) (by omega)
    have w2 : IntKind.i64.wrap (n + 1 + (d.sectors[i].length : Int)) = n + 1 + (d.sectors[i].length : Int) := wrap_i64 (by omega) (by omega)
    have w3 : IntKind.i64.wrap ((i : Int) + 1) = ((i + 1 : Nat) : Int) := (wrapS (by omega)).trans (by omega)
    obtain ⟨b, hb⟩ := ih (n + 1 + (d.sectors[i].length : Int), i + 1) (by simp only; omega) (by simp only; omega)
    refine ⟨b, ?_⟩
    have g : d.sectors.getD (i : Int).toNat default = d.sectors[i] := by simp [a1]
    have c : (i : Int) < (d.sectors.length : Int) := by omega
    simp only [jn_eq, c, a2, decide_true, cond_true, g, w1, w2, w3]
    rw [ck_eq (by simp)]; exact hb
  · simp [a1, a2]
  · simp [a1, a2]
  · simp [a1, a2]
theorem sm_few {d : XDisk} (h : smXDisk d) : Few' d := ⟨by have := h.1.1; omega, by have := h.2.1.1; omega⟩
theorem m47_eq (d : XDisk) (h : Few' d) : m47_disk_runs d = some (chk d && !d.stopped) := by
  unfold m47_disk_runs; rw [m18_eq d h]; cases chk d <;> simp
end Go.Fx


/- What the operations of the disk of chapter 44 answer. -/
set_option linter.unusedSimpArgs false
set_option linter.unusedVariables false
namespace Go.Fx
open Go Go.RowKit
theorem m48_eq (d : XDisk) (a : Int) : m48_disk_has d a = some (decide (0 ≤ a) && decide (a < (d.sectors.length : Int))) := by
  unfold m48_disk_has; cases h : decide (0 ≤ a) <;> simp
/-- the pairs of a list from its end, below an index -/
def dn (s : List XWrite) : Nat → List (Int × XWrite)
  | 0 => []
  | n + 1 => ((n : Int), s.getD n default) :: dn s n
theorem m68_eq (s : List XWrite) (hl : s.length < 900000) : m68_api_Write__1 s = some (dn s s.length) := by
  unfold m68_api_Write__1
  have main : ∀ (n fuel : Nat), n ≤ s.length → n < fuel → loop1 (m68_api_Write__1_B0 s) fuel ((n : Int) - 1) = some (dn s n) := by
    intro n
    induction n with
    | zero => intro fuel _ hf; obtain ⟨k, rfl⟩ : ∃ k, fuel = k + 1 := ⟨fuel - 1, by omega⟩; rw [loop1_succ]; unfold m68_api_Write__1_B0; simp [dn]
    | succ n ih =>
      intro fuel hn hf; obtain ⟨k, rfl⟩ : ∃ k, fuel = k + 1 := ⟨fuel - 1, by omega⟩
      rw [loop1_succ]
      have := ih k (by omega) (by omega)
      generalize loop1 (m68_api_Write__1_B0 s) k = sf at this ⊢
      unfold m68_api_Write__1_B0
      have e : ((n + 1 : Nat) : Int) - 1 = (n : Int) := by omega
      have w : IntKind.i64.wrap ((n : Int) - 1) = (n : Int) - 1 := wrap_i64 (by omega) (by omega)
      rw [e, w, this]
      have : n < s.length := by omega
      simp [ck_eq, this, yl, dn]
  have w : IntKind.i64.wrap ((s.length : Int) - 1) = (s.length : Int) - 1 := wrap_i64 (by omega) (by omega)
  rw [w]; exact main s.length _ (by omega) (by omega)
/-- the bytes that were written last at a place -/
def lw (a : Int) (l : List XWrite) (z : List UInt8) : List UInt8 := l.foldl (fun z w => if w.at_ = a then w.data else z) z
theorem rng_lw (a : Int) (s : List XWrite) (K : List UInt8 → Option (List UInt8 × Int)) (z : List UInt8) (hK : ∀ v, K v = some (z, 0)) (n : Nat) (hn : n ≤ s.length) (v : List UInt8) :
    rng1 (m27_disk_Read_B0 a (fun v => some (v, 0))) K (dn s n) v = some (lw a (s.take n) z, 0) := by
  induction n with
  | zero => rw [dn, rng1_nil, hK]; rfl
  | succ n ih =>
    have hlt : n < s.length := by omega
    rw [dn, rng1_cons]
    unfold m27_disk_Read_B0
    rw [List.take_add_one, lw, List.foldl_append]
    have g : s[n]? = some s[n] := List.getElem?_eq_getElem hlt
    by_cases h : s[n].at_ = a
    · simp [g, h]
    · simp [g, h]; exact ih (by omega)
theorem m27_eq (d : XDisk) (a : Int) (h : Few' d) : m27_disk_Read d a = some (bif (chk d && !d.stopped) && (decide (0 ≤ a) && decide (a < (d.sectors.length : Int))) then (lw a d.pending (d.sectors.getD a.toNat default), 0) else ([], 440)) := by
  unfold m27_disk_Read
  rw [m47_eq d h, m48_eq]
  cases hc : chk d && !d.stopped
  · simp
  cases ha : (decide (0 ≤ a) && decide (a < (d.sectors.length : Int)))
  · simp
  have hp : d.pending.length < 900000 := by
    have : chk d = true := by revert hc; cases chk d <;> simp
    unfold chk at this; simp at this; omega
  simp only [Bool.and_eq_true, decide_eq_true_eq] at ha
  have := rng_lw a d.pending (fun v => some ((d.sectors.getD a.toNat default), 0)) (d.sectors.getD a.toNat default) (fun _ => rfl) d.pending.length (by omega) []
  rw [List.take_length] at this
  simp only [Option.bind_some, jn_eq, Bool.not_true, cond_false, m53_api_Write_, m68_eq _ hp, ck_eq ha, this, Bool.and_self, cond_true]
/-- the bytes of a sector that begins with some bytes -/
def pad (b : List UInt8) : List UInt8 := b.take 128 ++ (List.replicate 128 (0 : UInt8)).drop b.length
def dsk0 : XDisk := ⟨[], [], 0, false⟩
theorem m23_eq (d : XDisk) (a : Int) (b : List UInt8) (h : Few' d) : m23_disk_Write d a b =
    some (bif (chk d && !d.stopped) && (decide (0 ≤ a) && decide (a < (d.sectors.length : Int))) then
      (bif decide (128 < b.length) then (dsk0, 1) else bif decide (d.pending.length = 4096) then (dsk0, 2) else (⟨d.sectors, d.pending ++ [⟨a, pad b⟩], d.left, d.stopped⟩, 0)) else (dsk0, 440)) := by
  unfold m23_disk_Write
  rw [m47_eq d h, m48_eq]
  cases hc : chk d && !d.stopped
  · simp [dsk0]
  cases ha : (decide (0 ≤ a) && decide (a < (d.sectors.length : Int)))
  · simp [dsk0]
  have hp : d.pending.length ≤ 4096 := by
    have : chk d = true := by revert hc; cases chk d <;> simp
    unfold chk at this; simp at this; omega
  have e1 : (128 < (b.length : Int)) = (128 < b.length) := by apply propext; omega
  have e2 : ((d.pending.length : Int) = 4096) = (d.pending.length = 4096) := by apply propext; omega
  have e3 : m50_api_Write_ d.pending = some d.pending := by unfold m50_api_Write_; rw [ck_eq (by simp; omega)]; simp
  have e4 : m49_api_Write_ d.pending = some d.pending := by unfold m49_api_Write_; rw [ck_eq (by simp)]; simp
  simp only [Option.bind_some, jn_eq, Bool.not_true, cond_false, e1, e2, e3, e4]
  cases decide (128 < b.length)
  · cases decide (d.pending.length = 4096)
    · simp only [cond_false]
      rw [ck_eq (by omega), ck_eq (by simp), ck_eq (by simp; omega)]; simp [pad]
    · simp [dsk0]
  · simp [dsk0]
/-- the sectors after some writes -/
def perf (s : List (List UInt8)) (l : List XWrite) : List (List UInt8) := l.foldl (fun s w => s.set w.at_.toNat w.data) s
theorem perf_len (l : List XWrite) (s : List (List UInt8)) : (perf s l).length = s.length := by
  induction l generalizing s with
  | nil => rfl
  | cons x t ih => show (perf (s.set _ _) t).length = _; rw [ih]; simp
theorem m51_eq (s : List (List UInt8)) (l : List XWrite) (hs : s.length ≤ 5000) (hl : l.length < 5000) (hw : ∀ w ∈ l, 0 ≤ w.at_ ∧ w.at_ < (s.length : Int)) : m51_disk_perform s l = some (perf s l) := by
  unfold m51_disk_perform
  have e : m67_slices_Clonebyte_byte_ s = some s := by unfold m67_slices_Clonebyte_byte_; rw [ck_eq (by simp; omega)]; simp
  rw [e]
  show loop2 _ _ s 0 = _
  refine up_listB (σ := List (List UInt8)) (fun i x => x.length = s.length) (fun _ t x => some (perf x t)) l (by omega) ?_ ?_ (by simp) rfl
  · intro sf x _; unfold m51_disk_perform_B0; simp [perf]
  · intro sf i x y t h1 h2 h3 hx ih; obtain ⟨_, rfl⟩ := List.getElem?_eq_some_iff.1 h2
    have hm := hw l[i] (List.getElem_mem _)
    have := ih (x.set l[i].at_.toNat l[i].data) (by simpa using hx)
    unfold m51_disk_perform_B0
    have c1 : (i : Int) < (l.length : Int) := by omega
    have g : l.getD (i : Int).toNat default = l[i] := by simp [h1]
    simp only [c1, decide_true, cond_true, g, h3]
    rw [ck_eq (by simp), ck_eq (by rw [hx]; exact hm), this]; rfl
theorem chk_props {d : XDisk} (hk : chk d = true) : 1 ≤ d.sectors.length ∧ d.sectors.length ≤ 4096 ∧ d.pending.length ≤ 4096 ∧ -1 ≤ d.left ∧ d.left ≤ 65536 ∧ (∀ w ∈ d.pending, 0 ≤ w.at_ ∧ w.at_ < (d.sectors.length : Int) ∧ w.data.length = 128) ∧ ∀ s ∈ d.sectors, s.length = 128 := by
  unfold chk at hk
  simp only [Bool.not_eq_true', Bool.or_eq_false_iff, decide_eq_false_iff_not, List.any_eq_false] at hk
  obtain ⟨⟨⟨⟨⟨⟨h1, h2⟩, h3⟩, h4⟩, h5⟩, h6⟩, h7⟩ := hk
  refine ⟨by omega, by omega, by omega, by omega, by omega, fun w hw => ?_, fun s hs => ?_⟩
  · have := h6 w hw; simp [wrBad] at this; omega
  · have := h7 s hs; simpa [secBad] using this
theorem perf_all (l : List XWrite) (s : List (List UInt8)) (hs : ∀ x ∈ s, x.length = 128) (hl : ∀ w ∈ l, w.data.length = 128) : ∀ x ∈ perf s l, x.length = 128 := by
  induction l generalizing s with
  | nil => exact hs
  | cons w t ih =>
    refine ih (s.set w.at_.toNat w.data) (fun x hx => ?_) (fun w hw => hl w (by simp [hw]))
    rcases List.mem_or_eq_of_mem_set hx with h | h
    · exact hs x h
    · subst h; exact hl w (by simp)
/-- the torn sector -/
def torn (s : List UInt8) (w : List UInt8) : List UInt8 := w.take 64 ++ s.drop (min w.length 64)
theorem m25_eq (d : XDisk) (h : Few' d) : m25_disk_Sync d = some (bif chk d && !d.stopped then
      (bif decide (0 ≤ d.left) && decide (d.left < (d.pending.length : Int)) then
        (⟨(perf d.sectors (d.pending.take d.left.toNat)).set (d.pending.getD d.left.toNat default).at_.toNat (torn ((perf d.sectors (d.pending.take d.left.toNat)).getD (d.pending.getD d.left.toNat default).at_.toNat default) (d.pending.getD d.left.toNat default).data), [], 0, true⟩, 440)
      else (⟨perf d.sectors d.pending, [], bif decide (0 ≤ d.left) then d.left - (d.pending.length : Int) else d.left, false⟩, 0)) else (dsk0, 440)) := by
  unfold m25_disk_Sync
  rw [m47_eq d h]
  cases hc : chk d && !d.stopped
  · simp [dsk0]
  have hk : chk d = true := by revert hc; cases chk d <;> simp
  obtain ⟨p1, p2, p3, p4, p5, p6, p7⟩ := chk_props hk
  have hst : d.stopped = false := by revert hc; cases d.stopped <;> simp
  simp only [Option.bind_some, jn_eq, Bool.not_true, cond_false, cond_true]
  cases hL : decide (0 ≤ d.left) && decide (d.left < (d.pending.length : Int))
  · have e : m51_disk_perform d.sectors d.pending = some (perf d.sectors d.pending) := m51_eq _ _ (by omega) (by omega) (fun w hw => ⟨(p6 w hw).1, (p6 w hw).2.1⟩)
    rw [e]
    cases h0 : decide (0 ≤ d.left)
    · simp
    · have h1 : decide (d.left < (d.pending.length : Int)) = false := by rw [h0] at hL; simpa using hL
      have w : IntKind.i64.wrap (d.left - (d.pending.length : Int)) = d.left - (d.pending.length : Int) := wrap_i64 (by omega) (by omega)
      simp [h1, w]
  · simp only [Bool.and_eq_true, decide_eq_true_eq] at hL
    obtain ⟨l0, l1⟩ := hL
    have hn : d.left.toNat < d.pending.length := by omega
    have hm := p6 _ (List.getElem_mem hn)
    have e : m51_disk_perform d.sectors (d.pending.take d.left.toNat) = some (perf d.sectors (d.pending.take d.left.toNat)) := m51_eq _ _ (by omega) (by simp; omega) (fun w hw => ⟨(p6 w (List.mem_of_mem_take hw)).1, (p6 w (List.mem_of_mem_take hw)).2.1⟩)
    have g : d.pending.getD d.left.toNat default = d.pending[d.left.toNat] := by simp [hn]
    simp only [l0, l1, decide_true, cond_true, g, List.drop_zero, Nat.sub_zero, e]
    have hlen : (perf d.sectors (d.pending.take d.left.toNat)).length = d.sectors.length := perf_len _ _
    have hi : d.pending[d.left.toNat].at_.toNat < (perf d.sectors (d.pending.take d.left.toNat)).length := by rw [hlen]; omega
    have h128 := perf_all (d.pending.take d.left.toNat) d.sectors p7 (fun w hw => (p6 w (List.mem_of_mem_take hw)).2.2) _ (List.getElem_mem hi)
    have g2 : (perf d.sectors (d.pending.take d.left.toNat)).getD d.pending[d.left.toNat].at_.toNat default = (perf d.sectors (d.pending.take d.left.toNat))[d.pending[d.left.toNat].at_.toNat] := by simp [hi]
    have e5 : ∀ x : List UInt8, x.length = 128 → m52_slices_Clonebyte_byte_ x = some x := fun x hx => by unfold m52_slices_Clonebyte_byte_; rw [ck_eq (by simp; omega)]; simp
    have hb : 0 ≤ d.pending[d.left.toNat].at_ ∧ d.pending[d.left.toNat].at_ < ((perf d.sectors (d.pending.take d.left.toNat)).length : Int) := by rw [hlen]; exact ⟨hm.1, hm.2.1⟩
    have hc2 : d.left ≤ (d.pending.length : Int) := by omega
    simp only [Option.bind_some, hc2, and_self, ck_True, hb, and_true, g2, e5 _ h128]
    rw [ck_eq (by omega), ck_eq (by omega)]
    simp [torn]
end Go.Fx


/- Facts about disks of chapter 44: valid disks stay valid, what is read is what was performed. -/
set_option linter.unusedSimpArgs false
set_option linter.unusedVariables false
namespace Go.Fx
open Go Go.RowKit
theorem lw_append (a : Int) (l : List XWrite) (w : XWrite) (z : List UInt8) : lw a (l ++ [w]) z = if w.at_ = a then w.data else lw a l z := by simp [lw, List.foldl_append]
theorem perf_append (s : List (List UInt8)) (l m : List XWrite) : perf s (l ++ m) = perf (perf s l) m := by simp [perf, List.foldl_append]
theorem lw_perf (k : Nat) (l : List XWrite) (s : List (List UInt8)) (hk : k < s.length) (hw : ∀ w ∈ l, 0 ≤ w.at_ ∧ w.at_ < (s.length : Int)) :
    lw (k : Int) l (s.getD k default) = (perf s l).getD k default := by
  induction l generalizing s with
  | nil => rfl
  | cons w t ih =>
    show lw (k : Int) t (if w.at_ = (k : Int) then w.data else s.getD k default) = (perf (s.set w.at_.toNat w.data) t).getD k default
    rw [← ih (s.set w.at_.toNat w.data) (by simpa using hk) (fun x hx => by rw [List.length_set]; exact hw x (by simp [hx]))]
    congr 1
    have h0 := hw w (by simp)
    by_cases h : w.at_ = (k : Int)
    · have e : w.at_.toNat = k := by omega
      simp [h, hk]
    · have e : w.at_.toNat ≠ k := by omega
      simp [h, List.getElem?_set_ne e]
theorem lw_len (a : Int) (l : List XWrite) (z : List UInt8) (hz : z.length = 128) (hl : ∀ w ∈ l, w.data.length = 128) : (lw a l z).length = 128 := by
  induction l generalizing z with
  | nil => exact hz
  | cons w t ih =>
    refine ih (if w.at_ = a then w.data else z) ?_ (fun x hx => hl x (by simp [hx]))
    split
    · exact hl w (by simp)
    · exact hz
theorem pad_len {b : List UInt8} (h : b.length ≤ 128) : (pad b).length = 128 := by unfold pad; simp; omega
theorem pad_take {b : List UInt8} (h : b.length ≤ 128) : (pad b).take b.length = b := by unfold pad; rw [List.take_of_length_le h]; simp
theorem pad_full {b : List UInt8} (h : b.length = 128) : pad b = b := by unfold pad; rw [List.take_of_length_le (by omega), List.drop_eq_nil_of_le (by simp; omega)]; simp
theorem chk_of {d : XDisk} (h1 : 1 ≤ d.sectors.length) (h2 : d.sectors.length ≤ 4096) (h3 : d.pending.length ≤ 4096) (h4 : -1 ≤ d.left) (h5 : d.left ≤ 65536) (h6 : ∀ w ∈ d.pending, 0 ≤ w.at_ ∧ w.at_ < (d.sectors.length : Int) ∧ w.data.length = 128) (h7 : ∀ s ∈ d.sectors, s.length = 128) : chk d = true := by
  unfold chk
  simp only [Bool.not_eq_true', Bool.or_eq_false_iff, decide_eq_false_iff_not, List.any_eq_false]
  refine ⟨⟨⟨⟨⟨⟨by omega, by omega⟩, by omega⟩, by omega⟩, by omega⟩, fun w hw => ?_⟩, fun s hs => ?_⟩
  · have := h6 w hw; simp [wrBad, this.2.2]; omega
  · simp [secBad, h7 s hs]
/-- a write -/
def wr (d : XDisk) (a : Int) (b : List UInt8) : XDisk := ⟨d.sectors, d.pending ++ [⟨a, pad b⟩], d.left, d.stopped⟩
theorem chk_wr {d : XDisk} {a : Int} {b : List UInt8} (h : chk d = true) (h0 : 0 ≤ a) (h1 : a < (d.sectors.length : Int)) (hp : d.pending.length ≠ 4096) (hb : b.length ≤ 128) : chk (wr d a b) = true := by
  obtain ⟨p1, p2, p3, p4, p5, p6, p7⟩ := chk_props h
  refine chk_of p1 p2 (by simp [wr]; omega) p4 p5 (fun w hw => ?_) p7
  simp only [wr, List.mem_append, List.mem_singleton] at hw
  rcases hw with hw | hw
  · exact p6 w hw
  · subst hw; exact ⟨h0, h1, pad_len hb⟩
theorem wr_ok {d : XDisk} {a : Int} {b : List UInt8} (hf : Few' d) (h : chk d = true) (hs : d.stopped = false) (h0 : 0 ≤ a) (h1 : a < (d.sectors.length : Int)) (hp : d.pending.length ≠ 4096) (hb : b.length ≤ 128) : m23_disk_Write d a b = some (wr d a b, 0) := by
  rw [m23_eq d a b hf]
  have e1 : decide (128 < b.length) = false := by simp; omega
  simp [h, hs, h0, h1, hp, e1, wr]
theorem rd_ok {d : XDisk} {k : Nat} (hf : Few' d) (h : chk d = true) (hs : d.stopped = false) (h1 : k < d.sectors.length) : m27_disk_Read d (k : Int) = some ((perf d.sectors d.pending).getD k default, 0) := by
  obtain ⟨p1, p2, p3, p4, p5, p6, p7⟩ := chk_props h
  rw [m27_eq d k hf, ← lw_perf k d.pending d.sectors h1 (fun w hw => ⟨(p6 w hw).1, (p6 w hw).2.1⟩)]
  simp [h, hs, h1]
theorem chk_few {d : XDisk} (h : chk d = true) : Few' d := by
  obtain ⟨p1, p2, p3, p4, p5, p6, p7⟩ := chk_props h
  exact ⟨by omega, by omega⟩
/-- the disk after a sync that does not stop -/
def snc (d : XDisk) : XDisk := ⟨perf d.sectors d.pending, [], bif decide (0 ≤ d.left) then d.left - (d.pending.length : Int) else d.left, false⟩
theorem chk_snc {d : XDisk} (h : chk d = true) (hn : ¬ (0 ≤ d.left ∧ d.left < (d.pending.length : Int))) : chk (snc d) = true := by
  obtain ⟨p1, p2, p3, p4, p5, p6, p7⟩ := chk_props h
  refine chk_of (by simp [snc, perf_len]; omega) (by simp [snc, perf_len]; omega) (by simp [snc]) ?_ ?_ (by simp [snc]) ?_
  · by_cases h0 : 0 ≤ d.left <;> simp [snc, h0] <;> omega
  · by_cases h0 : 0 ≤ d.left <;> simp [snc, h0] <;> omega
  · exact perf_all _ _ p7 fun w hw => (p6 w hw).2.2
/-- the disk after a sync that stops -/
def stp (d : XDisk) : XDisk := ⟨(perf d.sectors (d.pending.take d.left.toNat)).set (d.pending.getD d.left.toNat default).at_.toNat (torn ((perf d.sectors (d.pending.take d.left.toNat)).getD (d.pending.getD d.left.toNat default).at_.toNat default) (d.pending.getD d.left.toNat default).data), [], 0, true⟩
theorem sn_ok {d : XDisk} (h : chk d = true) (hs : d.stopped = false) : m25_disk_Sync d = some (bif decide (0 ≤ d.left) && decide (d.left < (d.pending.length : Int)) then (stp d, 440) else (snc d, 0)) := by
  rw [m25_eq d (chk_few h)]; simp [h, hs, stp, snc]
end Go.Fx


/- DiskHistory: the plain law. -/
set_option linter.unusedSimpArgs false
set_option linter.unusedVariables false
namespace Go.Fx
open Go Go.RowKit
theorem gset {α} (l : List α) (k j : Nat) (x d : α) (hk : k < l.length) : (l.set k x).getD j d = if k = j then x else l.getD j d := by
  by_cases h : k = j
  · subst h; simp [hk]
  · simp [List.getElem?_set_ne h, h]
def dbl (c : UInt8) : List UInt8 := ((List.replicate 128 (0 : UInt8)).set 0 c).set 64 c
theorem m24_eq (c : UInt8) : m24_overflightlaw44_double c = some (dbl c) := by
  unfold m24_overflightlaw44_double; rw [ck_eq (by decide), ck_eq (by simp), ck_eq (by simp)]; rfl
theorem dbl_len (c : UInt8) : (dbl c).length = 128 := by simp [dbl]
def bw (a : XAct) : XWrite := ⟨((a.at_.toNat % 4 : Nat) : Int), dbl a.byte⟩
theorem bw_at (a : XAct) : (bw a).at_.toNat = a.at_.toNat % 4 := Int.toNat_natCast _
theorem bw_data (a : XAct) : (bw a).data = dbl a.byte := rfl
/-- the halves of the sectors begin with some bytes -/
def Hd (s : List (List UInt8)) (f g : List UInt8) : Prop := ∀ k < 4, (s.getD k default).length = 128 ∧ (s.getD k default).getD 0 default = f.getD k default ∧ (s.getD k default).getD 64 default = g.getD k default ∧ (s.getD k default).getD 1 default = 0 ∧ (s.getD k default).getD 127 default = 0
theorem hd_set {s : List (List UInt8)} {f g : List UInt8} (h : Hd s f g) (hs : s.length = 4) (hf : f.length = 4) (hg : g.length = 4) (k : Nat) (hk : k < 4) (c : UInt8) : Hd (s.set k (dbl c)) (f.set k c) (g.set k c) := by
  intro j hj
  rw [gset s k j _ _ (by omega), gset f k j _ _ (by omega), gset g k j _ _ (by omega)]
  by_cases e : k = j
  · simp [e, dbl]
  · simp only [e, if_false]; exact h j hj
theorem hd_torn {s : List (List UInt8)} {f g : List UInt8} (h : Hd s f g) (hs : s.length = 4) (hf : f.length = 4) (k : Nat) (hk : k < 4) (c : UInt8) : Hd (s.set k (torn (s.getD k default) (dbl c))) (f.set k c) g := by
  intro j hj
  rw [gset s k j _ _ (by omega), gset f k j _ _ (by omega)]
  by_cases e : k = j
  · subst e
    obtain ⟨h1, h2, h3, h4, h5⟩ := h k hk
    simp only [if_true]
    have l1 : (List.take 64 (dbl c)).length = 64 := by simp [dbl]
    have tk : torn (s.getD k default) (dbl c) = (dbl c).take 64 ++ (s.getD k default).drop 64 := by unfold torn; rw [dbl_len]; rfl
    rw [tk]
    generalize s.getD k default = b at *
    refine ⟨by simp [dbl_len, h1], ?_, ?_, ?_, ?_⟩
    · simp [dbl]
    · rw [← h3]; simp [List.getElem?_append_right, l1]
    · simp [dbl]
    · rw [← h5]; simp [List.getElem?_append_right, l1]
  · simp only [e, if_false]; exact h j hj
theorem holds_ok {d : XDisk} {f g : List UInt8} (hc : chk d = true) (hs : d.stopped = false) (h4 : d.sectors.length = 4) (hf : f.length = 4) (hg : g.length = 4) (h : Hd (perf d.sectors d.pending) f g) : m26_overflightlaw44_holds d f g = some true := by
  unfold m26_overflightlaw44_holds
  rw [ck_eq hf, ck_eq hg]
  refine up_list0 (fun t => some true) (List.replicate 4 ()) (by simp) ?_ ?_ (by simp)
  · intro sf; unfold m26_overflightlaw44_holds_B0; simp
  · intro sf i x t h1 h2 h3 ih
    simp only [List.length_replicate] at h1
    unfold m26_overflightlaw44_holds_B0
    rw [rd_ok (k := i) (chk_few hc) hc hs (by omega)]
    obtain ⟨b1, b2, b3, b4, b5⟩ := h i h1
    generalize (perf d.sectors d.pending).getD i default = b at *
    have c1 : (i : Int) < 4 := by omega
    simp only [c1, decide_true, cond_true, Option.bind_some, jn_eq, ne_eq, not_true_eq_false, decide_false, cond_false, b1, h3]
    rw [ck_eq (by omega), ck_eq (by omega), ck_eq (by omega), ck_eq (by omega), ck_eq (by omega), ck_eq (by omega)]
    simp only [Int.toNat_natCast, b2, b3, b4, b5]
    simp [ih]
theorem idx4 (a : UInt8) : ((UInt8.ofNat ((a.toNat : Int).tmod 4).toNat).toNat : Int) = ((a.toNat % 4 : Nat) : Int) := by
  rw [Int.tmod_eq_emod_of_nonneg (by omega)]
  have : ((a.toNat : Int) % 4).toNat = a.toNat % 4 := by omega
  rw [this]
  have h : a.toNat % 4 < 256 := by omega
  simp [UInt8.toNat_ofNat', Nat.mod_eq_of_lt h]
structure HS where
  w : List XAct
  r : Nat
  a1 : List UInt8
  a2 : List UInt8
  a3 : List UInt8
  s : List (List UInt8)
def HS.d (h : HS) : XDisk := ⟨h.s, h.w.map bw, h.r, false⟩
structure HI (i : Nat) (h : HS) : Prop where
  c : chk h.d = true
  r : h.r ≤ 255
  l : h.w.length ≤ i
  s : h.s.length = 4
  l1 : h.a1.length = 4
  l2 : h.a2.length = 4
  l3 : h.a3.length = 4
  hs : Hd h.s h.a2 h.a1
  hp : Hd (perf h.s (h.w.map bw)) h.a3 h.a3
theorem hist_B1 (left : UInt8) (h : HS) (i : Nat) (hi : HI i h) (hi40 : i ≤ 40) (k120 : (List XAct) → Int → (List UInt8) → (List UInt8) → (List UInt8) → (List (List UInt8)) → (List XWrite) → Int → Bool → Option Bool)
    (hk : ∀ h', HI i h' → k120 h'.w h'.r h'.a1 h'.a2 h'.a3 h'.s (h'.w.map bw) h'.r false = some true) (sync_1 : XDisk × Int) (hsy : m25_disk_Sync h.d = some sync_1) :
    ∀ (n k fuel : Nat) (a1 a2 : List UInt8), h.w.length = k + n → k ≤ h.r → n + 1 < fuel → a1.length = 4 → a2.length = 4 → Hd (perf h.s ((h.w.map bw).take k)) a2 a1 →
      loop3 (m4_overflightlaw44_DiskHistory_B1 left h.w h.r h.a3 k120 sync_1) fuel (k : Int) a1 a2 = some true := by
  rw [sn_ok hi.c rfl] at hsy
  have hsy := Option.some.inj hsy
  have dl : h.d.left = (h.r : Int) := rfl
  have dp : h.d.pending.length = h.w.length := by simp [HS.d]
  have hr := hi.r
  have hl := hi.l
  intro n
  induction n with
  | zero =>
    intro k fuel a1 a2 h1 h2 h3 h4 h5 h6
    obtain ⟨m, rfl⟩ : ∃ m, fuel = m + 1 := ⟨fuel - 1, by omega⟩
    rw [loop3_succ]; unfold m4_overflightlaw44_DiskHistory_B1
    have c1 : ¬ (k : Int) < (h.w.length : Int) := by omega
    have c2 : ¬ (h.r : Int) < (h.w.length : Int) := by omega
    have e : (decide (0 ≤ h.d.left) && decide (h.d.left < (h.d.pending.length : Int))) = false := by rw [dl, dp]; simp; omega
    rw [e, cond_false] at hsy
    subst hsy
    simp only [jn_eq, c1, c2, decide_false, cond_false, ne_eq, not_true_eq_false]
    have hsn : snc h.d = ⟨perf h.s (h.w.map bw), [], (h.r : Int) - (h.w.length : Int), false⟩ := by simp [snc, HS.d]
    have hc' := chk_snc hi.c (by rw [dl, dp]; omega)
    rw [ck_eq hi.l3, ck_eq hi.l3, holds_ok hc' rfl (by simp [snc, HS.d, perf_len, hi.s]) hi.l3 hi.l3 (by simpa [snc, HS.d, perf] using hi.hp)]
    have w : IntKind.i64.wrap ((h.r : Int) - (h.w.length : Int)) = ((h.r - h.w.length : Nat) : Int) := (wrap_i64 (by omega) (by omega)).trans (by omega)
    simp only [Option.bind_some, Bool.not_true, cond_false, w]
    rw [hsn] at hc' ⊢
    have hw : (h.r : Int) - (h.w.length : Int) = ((h.r - h.w.length : Nat) : Int) := by omega
    rw [hw] at hc' ⊢
    have tk : (h.w.map bw).take k = h.w.map bw := List.take_of_length_le (by simp; omega)
    rw [tk] at h6
    exact hk ⟨[], h.r - h.w.length, a1, a2, h.a3, perf h.s (h.w.map bw)⟩ ⟨hc', by simp only; omega, by simp, by simp [perf_len, hi.s], h4, h5, hi.l3, h6, hi.hp⟩
  | succ n ih =>
    intro k fuel a1 a2 h1 h2 h3 h4 h5 h6
    obtain ⟨m, rfl⟩ : ∃ m, fuel = m + 2 := ⟨fuel - 2, by omega⟩
    rw [loop3_succ]
    have IH := ih (k + 1) (m + 1)
    have hkl : k < h.w.length := by omega
    have IX : k = h.r → ∀ a1 a2, loop3 (m4_overflightlaw44_DiskHistory_B1 left h.w h.r h.a3 k120 sync_1) (m + 1) ((k : Int) + 1) a1 a2 = (bif (decide (sync_1.2 = 440)) then
          bif sync_1.1.stopped then
            (m20_disk_Restart sync_1.1).bind fun restart_1 =>
            ck (a2.length = 4) <|
            ck (a1.length = 4) <|
            (m26_overflightlaw44_holds restart_1 a2 a1).bind fun holds_2 =>
            some holds_2
          else
            some false
        else
          some false) := by
      intro hkr a1 a2
      rw [loop3_succ]; unfold m4_overflightlaw44_DiskHistory_B1
      have c1 : ¬ (k : Int) + 1 ≤ (h.r : Int) := by omega
      have c2 : (h.r : Int) < (h.w.length : Int) := by omega
      by_cases c3 : (k : Int) + 1 < (h.w.length : Int)
      · simp only [jn_eq, c1, c2, c3, decide_false, decide_true, cond_false, cond_true]
      · simp only [jn_eq, c1, c2, c3, decide_false, decide_true, cond_false, cond_true]
    generalize loop3 (m4_overflightlaw44_DiskHistory_B1 left h.w h.r h.a3 k120 sync_1) (m + 1) = sf at IH IX ⊢
    unfold m4_overflightlaw44_DiskHistory_B1
    have c1 : (k : Int) < (h.w.length : Int) := by omega
    have c2 : (k : Int) ≤ (h.r : Int) := by omega
    have w1 : IntKind.i64.wrap ((k : Int) + 1) = (k : Int) + 1 := wrap_i64 (by omega) (by omega)
    have ga : h.w.getD k default = h.w[k] := by simp [hkl]
    generalize ha : h.w[k] = a at ga
    have hm := Nat.mod_lt a.at_.toNat (show 0 < 4 by omega)
    have hlast : (h.w.map bw).take (k + 1) = (h.w.map bw).take k ++ [bw a] := by
      rw [List.take_add_one]; simp [hkl, ha]
    have gk : (h.w.map bw).getD k default = bw a := by simp [hkl, ha]
    simp only [jn_eq, c1, c2, decide_true, cond_true, ga, idx4, w1, Int.toNat_natCast]
    have k1 : ck (0 ≤ (k : Int) ∧ True) = fun (m : Option Bool) => m := by funext m; exact ck_eq (by simp)
    simp only [k1]
    rw [ck_eq (by omega)]
    have HP : Hd (perf h.s ((h.w.map bw).take (k + 1))) (a2.set (a.at_.toNat % 4) a.byte) (a1.set (a.at_.toNat % 4) a.byte) := by
      rw [hlast, perf_append]
      have := hd_set h6 (by rw [perf_len]; exact hi.s) h5 h4 _ hm a.byte
      simpa [perf, bw_at, bw_data] using this
    by_cases hkr : k = h.r
    · have c3 : ¬ (k : Int) < (h.r : Int) := by omega
      simp only [c3, decide_false, cond_false]
      rw [IX hkr]
      have e : (decide (0 ≤ h.d.left) && decide (h.d.left < (h.d.pending.length : Int))) = true := by rw [dl, dp]; simp; omega
      rw [e, cond_true] at hsy
      subst hsy
      have hst : stp h.d = ⟨(perf h.s ((h.w.map bw).take k)).set (a.at_.toNat % 4) (torn ((perf h.s ((h.w.map bw).take k)).getD (a.at_.toNat % 4) default) (dbl a.byte)), [], 0, true⟩ := by
        have e1 : h.d.left.toNat = k := by rw [dl]; omega
        unfold stp
        rw [e1]
        show (⟨(perf h.s ((h.w.map bw).take k)).set ((h.w.map bw).getD k default).at_.toNat (torn ((perf h.s ((h.w.map bw).take k)).getD ((h.w.map bw).getD k default).at_.toNat default) ((h.w.map bw).getD k default).data), [], 0, true⟩ : XDisk) = _
        rw [gk, bw_at, bw_data]
      have hT := hd_torn h6 (by rw [perf_len]; exact hi.s) h5 _ hm a.byte
      rw [hst]
      simp only [decide_true, cond_true, m20_disk_Restart, Option.bind_some]
      rw [ck_eq (by simp [h5]), ck_eq h4]
      have hck : chk ⟨(perf h.s ((h.w.map bw).take k)).set (a.at_.toNat % 4) (torn ((perf h.s ((h.w.map bw).take k)).getD (a.at_.toNat % 4) default) (dbl a.byte)), [], -1, false⟩ = true := by
        refine chk_of (by simp [perf_len, hi.s]) (by simp [perf_len, hi.s]) (by simp) (by simp) (by simp) (by simp) ?_
        intro x hx
        obtain ⟨j, hj, rfl⟩ := List.mem_iff_getElem.1 hx
        have := (hT j (by simpa [perf_len, hi.s] using hj)).1
        have e0 := getD_of (d := default) (List.getElem?_eq_getElem hj)
        rw [e0] at this; exact this
      rw [holds_ok hck rfl (by simp [perf_len, hi.s]) (by simp [h5]) h4 (by simpa [perf] using hT)]
      rfl
    · have c3 : (k : Int) < (h.r : Int) := by omega
      simp only [c3, decide_true, cond_true]
      rw [ck_eq (by omega)]
      exact IH _ _ (by omega) (by omega) (by omega) (by simp [h4]) (by simp [h5]) HP
theorem DiskHistory_law (script : List XAct) (left : UInt8) (_ : SmL smXAct script) (_ : SmT left) : m4_overflightlaw44_DiskHistory script left = some true := by
  unfold m4_overflightlaw44_DiskHistory
  rw [sane_eq]
  simp only [Option.bind_some, jn_eq, Bool.not_true, cond_false]
  by_cases h40 : script.length ≤ 40
  case neg => have e : decide (40 < (script.length : Int)) = true := by simp; omega
              simp [e]
  have e40 : decide (40 < (script.length : Int)) = false := by simp; omega
  have hl : left.toNat ≤ 255 := by have := left.toNat_lt; omega
  have n4 : m15_disk_New 4 = some (⟨List.replicate 4 (List.replicate 128 0), [], -1, false⟩, 0) := by decide +kernel
  have ck4 : ∀ r : Int, -1 ≤ r → r ≤ 65536 → chk ⟨List.replicate 4 (List.replicate 128 0), [], r, false⟩ = true := fun r h1 h2 => chk_of (by simp) (by simp) (by simp) h1 h2 (by simp) (by intro s hs; rw [List.eq_of_mem_replicate hs]; simp)
  have st4 : m22_disk_Stop ⟨List.replicate 4 (List.replicate 128 0), [], -1, false⟩ (left.toNat : Int) = some (⟨List.replicate 4 (List.replicate 128 0), [], (left.toNat : Int), false⟩, 0) := by
    unfold m22_disk_Stop
    rw [m47_eq _ (chk_few (ck4 (-1) (by decide) (by decide))), ck4 (-1) (by decide) (by decide)]
    have a1 : ¬ (left.toNat : Int) < 0 := by omega
    have a2 : ¬ 65536 < (left.toNat : Int) := by omega
    simp [a1, a2]
  rw [n4]
  simp only [Option.bind_some, st4, e40, cond_false, ne_eq, not_true_eq_false, decide_false]
  have := up_list (σ := HS) (L := fun n i h => loop10 (m4_overflightlaw44_DiskHistory_B0 script left) n h.w h.r i h.a1 h.a2 h.a3 h.s (h.w.map bw) h.r false)
    HI (fun _ _ _ => some true) script (by omega) ?_ ?_ (((script.length : Int) - 0).toNat + 1) ⟨[], left.toNat, [0, 0, 0, 0], [0, 0, 0, 0], [0, 0, 0, 0], List.replicate 4 (List.replicate 128 0)⟩ (by simp) ?_
  · exact this
  · intro n h hi
    show loop10 _ (n + 1) _ _ _ _ _ _ _ _ _ _ = _
    rw [loop10_succ]; unfold m4_overflightlaw44_DiskHistory_B0
    have c1 : ¬ (script.length : Int) < (script.length : Int) := by omega
    simp only [c1, decide_false, cond_false, m20_disk_Restart, Option.bind_some]
    obtain ⟨p1, p2, p3, p4, p5, p6, p7⟩ := chk_props hi.c
    have hz : chk ⟨h.s, [], -1, false⟩ = true := chk_of p1 p2 (by simp) (by simp) (by simp) (by simp) p7
    rw [ck_eq hi.l2, ck_eq hi.l1, holds_ok hz rfl hi.s hi.l2 hi.l1 (by simpa [perf] using hi.hs)]
    rfl
  · intro n i h a t h1 h2 h3 hi ih
    show loop10 _ (n + 1) _ _ _ _ _ _ _ _ _ _ = _
    rw [loop10_succ]
    generalize loop10 _ n = sf at ih ⊢
    unfold m4_overflightlaw44_DiskHistory_B0
    have ga : script.getD (i : Int).toNat default = a := by rw [Int.toNat_natCast]; exact getD_of h2
    have c1 : (i : Int) < (script.length : Int) := by omega
    have hm := Nat.mod_lt a.at_.toNat (show 0 < 4 by omega)
    obtain ⟨p1, p2, p3, p4, p5, p6, p7⟩ := chk_props hi.c
    have hl1 := hi.l
    have hlw : (h.w.map bw).length = h.w.length := by simp
    simp only [jn_eq, c1, decide_true, cond_true, ga, idx4, h3]
    rw [ck_eq (by simp)]
    cases hsync : a.sync
    · simp only [Bool.not_false, cond_true, m24_eq, Option.bind_some]
      have hw := wr_ok (b := dbl a.byte) (d := h.d) (chk_few hi.c) hi.c rfl (a := ((a.at_.toNat % 4 : Nat) : Int)) (by omega) (by show _ < (h.s.length : Int); rw [hi.s]; omega) (by show (h.w.map bw).length ≠ 4096; omega) (by rw [dbl_len]; omega)
      have hc' := chk_wr (b := dbl a.byte) (d := h.d) hi.c (a := ((a.at_.toNat % 4 : Nat) : Int)) (by omega) (by show _ < (h.s.length : Int); rw [hi.s]; omega) (by show (h.w.map bw).length ≠ 4096; omega) (by rw [dbl_len]; omega)
      have e1 : wr h.d ((a.at_.toNat % 4 : Nat) : Int) (dbl a.byte) = (⟨h.w ++ [a], h.r, h.a1, h.a2, h.a3.set (a.at_.toNat % 4) a.byte, h.s⟩ : HS).d := by
        simp [wr, HS.d, pad_full (dbl_len _), bw]
      rw [e1] at hw hc'
      have hw : m23_disk_Write ⟨h.s, h.w.map bw, h.r, false⟩ ((a.at_.toNat % 4 : Nat) : Int) (dbl a.byte) = _ := hw
      rw [hw]
      simp only [Option.bind_some, ne_eq, not_true_eq_false, decide_false, cond_false, Int.toNat_natCast]
      have l3 : (h.a3.set (a.at_.toNat % 4) a.byte).length = 4 := by simp [hi.l3]
      have hH : Hd (perf h.s ((h.w ++ [a]).map bw)) (h.a3.set (a.at_.toNat % 4) a.byte) (h.a3.set (a.at_.toNat % 4) a.byte) := by
        rw [List.map_append, perf_append]
        have := hd_set hi.hp (by rw [perf_len]; exact hi.s) hi.l3 hi.l3 _ hm a.byte
        simpa [perf, bw_at, bw_data] using this
      have hl3 := hi.l3
      rw [ck_eq (by omega), ck_eq (by simp; omega), ck_eq l3, ck_eq l3, holds_ok hc' rfl hi.s l3 l3 hH]
      simp only [Option.bind_some, Bool.not_true, cond_false]
      exact ih ⟨h.w ++ [a], h.r, h.a1, h.a2, h.a3.set (a.at_.toNat % 4) a.byte, h.s⟩ ⟨hc', hi.r, by simp; omega, hi.s, hi.l1, hi.l2, l3, hi.hs, hH⟩
    · simp only [Bool.not_true, cond_false]
      obtain ⟨y, hy⟩ : ∃ y, m25_disk_Sync h.d = some y := ⟨_, sn_ok hi.c rfl⟩
      have hy' : m25_disk_Sync ⟨h.s, h.w.map bw, h.r, false⟩ = some y := hy
      rw [hy']
      simp only [Option.bind_some]
      exact hist_B1 left h i hi (by omega) _ (fun h' hi' => ih h' ⟨hi'.c, hi'.r, by have := hi'.l; omega, hi'.s, hi'.l1, hi'.l2, hi'.l3, hi'.hs, hi'.hp⟩) y hy h.w.length 0 1000000 h.a1 h.a2 (by omega) (by omega) (by omega) hi.l1 hi.l2 (by simpa [perf] using hi.hs)
  · have h0 : Hd (List.replicate 4 (List.replicate 128 0)) [0, 0, 0, 0] [0, 0, 0, 0] := by
      intro k hk
      have e : (List.replicate 4 (List.replicate 128 (0 : UInt8))).getD k default = List.replicate 128 0 := getD_of (by rw [List.getElem?_replicate, if_pos hk])
      rw [e]
      have z : ([0, 0, 0, 0] : List UInt8).getD k default = 0 := by rcases k with _ | _ | _ | _ | k <;> first | rfl | omega
      rw [z]; simp
    exact ⟨ck4 _ (by simp only; omega) (by simp only; omega), hl, by simp, by simp, rfl, rfl, rfl, h0, by simpa [perf] using h0⟩
end Go.Fx


namespace Go.Proofs.Ytegomkljijgjjaa.lawDiskHistory
open Go Go.Proofs Go.ChangeShapes Go.WideShapes Go.ChangeAt Go.RowKit Go.Fx
open Go.ChangeMaps (open_string shut_string)
set_option linter.unusedVariables false
set_option maxRecDepth 100000
theorem own : ownKnob Try.prog.godebug = none := by kernel_rfl
theorem laidOut : laidOutB Try.prog = true := by kernel_rfl
set_option maxRecDepth 100000 in
set_option maxHeartbeats 1000000 in
theorem lifted (os : Os) (started : os.Started) (H : Type) (enc : TypeId × Value → H) :
    ReturnsInHanded {} Try.checked os 4 .any (Rows.diskHistorySpec.pre6 enc Try.prog Try.f4 Rows.diskHistoryRow.domain false) (Rows.diskHistorySpec.post enc Try.prog Try.f4 false true false false) := by
  refine returnsInHanded_of_change_sized (C := Try.checked) own started (by kernel_rfl) Try.func4
    (ChangeSpec.witness6 (enc := enc) (C := Try.checked) false ⟨#[], #[(.slice none 0 0), (.int .u8 0)], []⟩ 8 (by kernel_rfl) (by kernel_rfl) (by kernel_rfl) (by kernel_rfl)) ?_
  intro W base args ds gs before hval0 hW hcnd hsz _
  have hval : ∀ (j : Nat) t v, Try.f4.params[j]? = some t → args[j]? = some v → Value.okWide Try.prog W .any base t v := hval0
  have hW' := hW
  obtain ⟨p, q, hA0, hV, rfl, hfz, hnd⟩ := hW
  have hA : DataW.TrodAll enc Try.prog W 0 (fun _ => true) true Try.f4.params.toList args.toList ds p := hA0
  rw [Try.params4] at hA hval
  obtain ⟨v0, vs0, d0, ds0, p0, q0, hargs, rfl, rfl, h0, r0⟩ := trodAll_cons hA
  obtain ⟨v1, vs1, d1, ds1, p1, q1, rfl, rfl, rfl, h1, r1⟩ := trodAll_cons r0
  obtain ⟨rfl, rfl, rfl⟩ := trodAll_nil r1
  obtain rfl : args = #[v0, v1] := by cases args; simp_all
  obtain ⟨rfl, rfl⟩ := trodVars_none hV
  have k0 := h0
  have lt0 : ∀ x ∈ p0, x.block < W.heap.size := by obtain ⟨m, hm⟩ := k0; exact DataW.trod_lt m _ _ _ hm
  obtain ⟨fu0, hf0⟩ := h0
  obtain ⟨script, rr0, sm0⟩ := rd35.2 _ _ _ hf0
  replace sm0 := sm0 (fun n hn => by have := List.all_eq_true.1 hsz n (DataW.weights_mem_each (j := 0) (t := 35) rfl rfl n hn); simpa using this)
  obtain ⟨b0, l0, c0, rfl⟩ := okWide_slice Try.underlying35 (hval 0 35 v0 rfl rfl)
  replace rr0 : (rSl rXAct).rd W [] [.slice b0 l0 c0] script := rr0
  obtain ⟨a_script, c_script, e0, f_script⟩ := un_sl rr0
  simp only [Value.slice.injEq] at e0
  obtain ⟨rfl, rfl, rfl⟩ := e0
  have k1 := h1
  have lt1 : ∀ x ∈ p1, x.block < W.heap.size := by obtain ⟨m, hm⟩ := k1; exact DataW.trod_lt m _ _ _ hm
  obtain ⟨fu1, hf1⟩ := h1
  obtain ⟨left, rr1, sm1⟩ := rd5.2 _ _ _ hf1
  replace sm1 := sm1 (fun n hn => by have := List.all_eq_true.1 hsz n (DataW.weights_mem_each (j := 1) (t := 5) rfl rfl n hn); simpa using this)
  obtain ⟨n1, rfl⟩ := okWide_int Try.underlying5 (hval 1 5 v1 rfl rfl)
  replace rr1 : rU8.rd W [] [.int .u8 n1] left := rr1
  obtain rfl : n1 = (left.toNat : Int) := by have := un_u8 rr1; simpa using this
  have hm : m4_overflightlaw44_DiskHistory script left = some true := DiskHistory_law _ _ sm0 sm1
  have hc := Fn.calls (c4_overflightlaw44_DiskHistory (script := script) (left := left) (w := W) (O := []) (by simp) f_script hm)
  clear hA0 hval0
  refine Calls.mono hc ?_
  rintro e W' ⟨v, rfl, bel, hv⟩
  obtain rfl : v = .bool true := hv
  exact ⟨_, rfl, _, _, _, [], _, [], hW', trodAll_mk1 (shut_bool Try.underlying4 _), (trodAll_cons_mk (Below.trod laidOut (by kernel_rfl) (of_decide_eq_true (by kernel_rfl)) k0 bel lt0) (trodAll_cons_mk (Below.trod laidOut (by kernel_rfl) (of_decide_eq_true (by kernel_rfl)) k1 bel lt1) trodAll_mk0)), rfl, bel.frame _, fun h => by cases h⟩
theorem over : Rows.diskHistoryRow.holds Try.pinned (OpenSpec.ofChange Rows.diskHistorySpec) :=
  OpenClaim.holds_of_wide 4 Try.f4 rfl rfl rfl rfl rfl rfl rfl ⟨rfl, rfl, rfl, rfl, rfl⟩ rfl rfl rfl rfl rfl (by kernel_rfl) Try.func4 (by kernel_rfl)
    (of_decide_eq_true (by kernel_rfl)) (by unfold Func.isWrapper; first | (rw [if_pos (by decide +kernel)]; kernel_rfl) | (rw [if_neg (by decide +kernel)]; exact ⟨rfl, rfl⟩))
    (fun os started H enc _ => lifted os started H enc)
theorem proved : Rows.DiskHistorySaid := over
end Go.Proofs.Ytegomkljijgjjaa.lawDiskHistory

