/- Part 3 of the proof: for every list of writes and syncs and every number, the law DiskHistory of chapter 44 returns true. -/
import Derived.Test.YtegomkljijgjjaaHist2
set_option linter.unusedVariables false
set_option linter.unusedSimpArgs false
set_option maxRecDepth 100000
set_option maxHeartbeats 0
namespace Go.Fx
open Go Go.RowKit Go.Proofs
def m23_disk_Write (d : XDisk) (at_ : Int) (b : List UInt8) : Option (XDisk × Int) :=
  jn (fun (v_1 : Bool) =>
    bif v_1 then
      some ((⟨([] : List (List UInt8)), ([] : List XWrite), 0, false⟩ : XDisk), 440)
    else
      bif (decide (128 < (b.length : Int))) then
        some ((⟨([] : List (List UInt8)), ([] : List XWrite), 0, false⟩ : XDisk), 1)
      else
        bif (decide ((d.pending.length : Int) = 4096)) then
          some ((⟨([] : List (List UInt8)), ([] : List XWrite), 0, false⟩ : XDisk), 2)
        else
          ck ((0 : Int) ≤ (128 : Int) ∧ (128 : Int) ≤ (128 : Int) ∧ (1 : Int) * 128 ≤ 281474976710656 ∧ (128 : Int) ≤ 281474976710656) <|
          ck (0 < (List.replicate 128 (0 : UInt8)).length) <|
          (m50_api_Write_ d.pending).bind fun write_1 =>
          (m49_api_Write_ write_1).bind fun write_2 =>
          ck ((write_2.length + [(⟨at_, (b.take (List.replicate 128 (0 : UInt8)).length ++ (List.replicate 128 (0 : UInt8)).drop b.length)⟩ : XWrite)].length) * 32 ≤ 140737488355328) <|
          some ((⟨d.sectors, (write_2 ++ [(⟨at_, (b.take (List.replicate 128 (0 : UInt8)).length ++ (List.replicate 128 (0 : UInt8)).drop b.length)⟩ : XWrite)]), d.left, d.stopped⟩ : XDisk), 0))
  (fun k13 =>
    (m47_disk_runs d).bind fun runs_1 =>
    bif (!runs_1) then
      k13 true
    else
      (m48_disk_has d at_).bind fun has_1 =>
      k13 (!has_1))

theorem c23_disk_Write {w : World} {O : List Nat} {d : XDisk} {at_ : Int} {b : List UInt8} {a_d_sectors : Option Addr} {c_d_sectors : Nat} {a_d_pending : Option Addr} {c_d_pending : Nat} {a_b : Option Addr} {c_b : Nat} (hO : ∀ k ∈ O, k < w.heap.size) (f_d_sectors : SlR (rSl rU8) w O a_d_sectors c_d_sectors d.sectors) (f_d_pending : SlR rXWrite w O a_d_pending c_d_pending d.pending) (r_d_left : InK .i64 d.left) (r_at_ : InK .i64 at_) (f_b : SlR rU8 w O a_b c_b b) {x : XDisk × Int} (hm : m23_disk_Write d at_ b = some x) :
    Ok Try.prog 23 [(Value.agg [(Value.slice a_d_sectors d.sectors.length c_d_sectors), (Value.slice a_d_pending d.pending.length c_d_pending), (Value.int .i64 d.left), (Value.bool d.stopped)].toArray), (Value.int .i64 at_), (Value.slice a_b b.length c_b)] w O (vT2 (vA rXDisk) (vI .i64)) x := by
  unfold m23_disk_Write at hm
  refine Fn_of_Wp (n := 46) (xs := [.cell 6 25, .tmp 7]) Try.func23 rfl Try.ntmps23 Try.results23 rfl ?_
  have hs := St.start hO
  refine Wp_seq ?_
  refine Wp_region ?_  -- 0 disk.go:58
  refine Rg_op rfl (op_box (cs := [(Value.slice a_d_sectors d.sectors.length c_d_sectors), (Value.slice a_d_pending d.pending.length c_d_pending), (Value.int .i64 d.left), (Value.bool d.stopped)]) hs rfl rfl ?_)
  intro b1 w2 _ p3 hs4
  replace f_d_sectors := f_d_sectors.step p3
  replace f_d_pending := f_d_pending.step p3
  replace f_b := f_b.step p3
  clear p3
  refine Rg_op rfl (op_alloc ty25 hs4 ?_)
  intro b6 w7 _ p8 hs9
  replace f_d_sectors := f_d_sectors.step p8
  replace f_d_pending := f_d_pending.step p8
  replace f_b := f_b.step p8
  clear p8 hs4
  refine Rg_op rfl (op_assign (v := (Value.int .i64 0)) rfl ?_)
  refine Rg_nil ?_
  refine Wp_seq ?_
  refine Wp_block ?_
  refine Wp_reset [] [(1, (Value.int .i64 at_)), (2, (Value.slice a_b b.length c_b)), (3, (Value.pointer (some ⟨b1, 0, none⟩))), (6, (Value.pointer (some ⟨b6, 0, none⟩)))] rfl ⟨rfl, rfl, rfl, rfl, trivial⟩ fun ξ11 => ?_
  replace hm := jn_elim hm; obtain ⟨k13, hk14, hm⟩ := hm
  refine Wp_seqJ [9, 10, 11, 12, 13, 14, 15, 16, 17, 18] (fun fr w' => ∃ (v_1 : Bool) (Ebs : Ents), Ebs = [(some b6, Obj.cells [(Value.slice none 0 0), (Value.slice none 0 0), (Value.int .i64 0), (Value.bool false)].toArray 25), (some b1, Obj.cells [(Value.slice a_d_sectors d.sectors.length c_d_sectors), (Value.slice a_d_pending d.pending.length c_d_pending), (Value.int .i64 d.left), (Value.bool d.stopped)].toArray 25)] ∧ fr [] [(9, (Value.bool v_1))] ∧ Step (ks [(some b6, Obj.cells [(Value.slice none 0 0), (Value.slice none 0 0), (Value.int .i64 0), (Value.bool false)].toArray 25), (some b1, Obj.cells [(Value.slice a_d_sectors d.sectors.length c_d_sectors), (Value.slice a_d_pending d.pending.length c_d_pending), (Value.int .i64 d.left), (Value.bool d.stopped)].toArray 25)] O) w7 (ks Ebs O) w' ∧ St ⟨w, [], []⟩ O w' Ebs ∧ k13 v_1 = some x) ?_ ?_
  ·
    rintro ρ20 w16 ⟨v_1, Ebs, hEbs, hfr19, hst18, hs17, hm⟩
    replace hm := jnE1 hk14 hm
    subst hEbs; rw [hfr19.eq]; clear hfr19
    replace f_d_sectors := f_d_sectors.step hst18
    replace f_d_pending := f_d_pending.step hst18
    replace f_b := f_b.step hst18
    clear hst18 hs9
    refine Wp_cond rfl (fun hc21 => ?_) (fun hc21 => ?_)
    ·
      replace hm := bif_t hm hc21
      refine Wp_seq ?_
      obtain ⟨hs22, p23⟩ := hs17.sub (bs' := [(some b6, Obj.cells [(Value.slice none 0 0), (Value.slice none 0 0), (Value.int .i64 0), (Value.bool false)].toArray 25)]) (.cons_cons _ (.cons _ List.Sublist.slnil))
      clear f_d_sectors f_d_pending f_b
      clear p23 hs17
      refine Wp_region ?_  -- 2 disk.go:61
      refine Rg_op rfl (op_loadA (cs := [(Value.slice none 0 0), (Value.slice none 0 0), (Value.int .i64 0), (Value.bool false)]) (vs := [(Value.slice none 0 0), (Value.slice none 0 0), (Value.int .i64 0), (Value.bool false)]) (i := 0) ty25 hs22 rfl rfl rfl rfl ?_)
      refine Rg_op_ (op_store (cs := [(Value.slice none 0 0), (Value.slice none 0 0), (Value.int .i64 0), (Value.bool false)]) (vs := [(Value.slice none 0 0), (Value.slice none 0 0), (Value.int .i64 0), (Value.bool false)]) (cs' := [(Value.slice none 0 0), (Value.slice none 0 0), (Value.int .i64 0), (Value.bool false)]) (bs' := [(some b6, Obj.cells [(Value.slice none 0 0), (Value.slice none 0 0), (Value.int .i64 0), (Value.bool false)].toArray 25)]) (i := 0) ty25 hs22 rfl rfl rfl rfl rfl (le_lit rfl) rfl rfl rfl ?_)
      intro w24 p25 hs26
      clear p25 hs22
      refine Rg_op rfl (op_assign (v := (Value.int .i64 440)) rfl ?_)
      refine Rg_nil ?_
      refine Wp_ret ?_
      have hz := step_all hs26
      refine ⟨_, (show Closes [] _ _ from rfl), [(Value.agg [(Value.slice none 0 0), (Value.slice none 0 0), (Value.int .i64 0), (Value.bool false)].toArray), (Value.int .i64 440)], ⟨resA (cs := [(Value.slice none 0 0), (Value.slice none 0 0), (Value.int .i64 0), (Value.bool false)]) (vs := [(Value.slice none 0 0), (Value.slice none 0 0), (Value.int .i64 0), (Value.bool false)]) ty25 (i := 0) hs26 rfl rfl rfl rfl, rfl, trivial⟩, hs26.ext, ?_⟩
      exact Vr.eq (a := (vT2 (vA rXDisk) (vI .i64))) (x := ((⟨([] : List (List UInt8)), ([] : List XWrite), 0, false⟩ : XDisk), 440)) (mkT2 (mkA (mkVia (mk_pair (mk_sl SlR.nil_) (mk_pair (mk_sl SlR.nil_) (mk_pair (mk_int (show InK .i64 0 from by decide)) mkBool))))) ⟨rfl, (show InK .i64 440 from by decide)⟩) (Option.some.inj hm)
    ·
      replace hm := bif_f hm hc21
      refine Wp_seq ?_
      refine Wp_region ?_  -- 3 disk.go:62
      refine Rg_op rfl (op_move (v := (Value.slice a_b b.length c_b)) rfl ?_)
      refine Rg_op rfl (op_len Try.underlying41 rfl ?_)
      refine Rg_op rfl (op_gtr rfl rfl ?_)
      refine Rg_op rfl (op_assign (v := (Value.bool (decide (128 < (b.length : Int))))) rfl ?_)
      refine Rg_nil ?_
      refine Wp_cond rfl (fun hc27 => ?_) (fun hc27 => ?_)
      ·
        replace hm := bif_t hm hc27
        refine Wp_seq ?_
        obtain ⟨hs28, p29⟩ := hs17.sub (bs' := [(some b6, Obj.cells [(Value.slice none 0 0), (Value.slice none 0 0), (Value.int .i64 0), (Value.bool false)].toArray 25)]) (.cons_cons _ (.cons _ List.Sublist.slnil))
        clear f_d_sectors f_d_pending f_b
        clear p29 hs17
        refine Wp_region ?_  -- 4 disk.go:63
        refine Rg_op rfl (op_loadA (cs := [(Value.slice none 0 0), (Value.slice none 0 0), (Value.int .i64 0), (Value.bool false)]) (vs := [(Value.slice none 0 0), (Value.slice none 0 0), (Value.int .i64 0), (Value.bool false)]) (i := 0) ty25 hs28 rfl rfl rfl rfl ?_)
        refine Rg_op_ (op_store (cs := [(Value.slice none 0 0), (Value.slice none 0 0), (Value.int .i64 0), (Value.bool false)]) (vs := [(Value.slice none 0 0), (Value.slice none 0 0), (Value.int .i64 0), (Value.bool false)]) (cs' := [(Value.slice none 0 0), (Value.slice none 0 0), (Value.int .i64 0), (Value.bool false)]) (bs' := [(some b6, Obj.cells [(Value.slice none 0 0), (Value.slice none 0 0), (Value.int .i64 0), (Value.bool false)].toArray 25)]) (i := 0) ty25 hs28 rfl rfl rfl rfl rfl (le_lit rfl) rfl rfl rfl ?_)
        intro w30 p31 hs32
        clear p31 hs28
        refine Rg_op rfl (op_assign (v := (Value.int .i64 1)) rfl ?_)
        refine Rg_nil ?_
        refine Wp_ret ?_
        have hz := step_all hs32
        refine ⟨_, (show Closes [] _ _ from rfl), [(Value.agg [(Value.slice none 0 0), (Value.slice none 0 0), (Value.int .i64 0), (Value.bool false)].toArray), (Value.int .i64 1)], ⟨resA (cs := [(Value.slice none 0 0), (Value.slice none 0 0), (Value.int .i64 0), (Value.bool false)]) (vs := [(Value.slice none 0 0), (Value.slice none 0 0), (Value.int .i64 0), (Value.bool false)]) ty25 (i := 0) hs32 rfl rfl rfl rfl, rfl, trivial⟩, hs32.ext, ?_⟩
        exact Vr.eq (a := (vT2 (vA rXDisk) (vI .i64))) (x := ((⟨([] : List (List UInt8)), ([] : List XWrite), 0, false⟩ : XDisk), 1)) (mkT2 (mkA (mkVia (mk_pair (mk_sl SlR.nil_) (mk_pair (mk_sl SlR.nil_) (mk_pair (mk_int (show InK .i64 0 from by decide)) mkBool))))) ⟨rfl, (show InK .i64 1 from by decide)⟩) (Option.some.inj hm)
      ·
        replace hm := bif_f hm hc27
        refine Wp_seq ?_
        refine Wp_region ?_  -- 5 disk.go:64
        refine Rg_op rfl (op_fieldAddr ty25 rfl ty23 (by decide) rfl (rfl : _ = (⟨_, 1, none⟩ : Addr)) ?_)
        refine Rg_op rfl (op_load (cs := [(Value.slice a_d_sectors d.sectors.length c_d_sectors), (Value.slice a_d_pending d.pending.length c_d_pending), (Value.int .i64 d.left), (Value.bool d.stopped)]) (i := 1) ty23 hs17 rfl rfl rfl ?_)
        refine Rg_op rfl (op_len Try.underlying23 rfl ?_)
        refine Rg_op rfl (op_eql rfl rfl ?_)
        refine Rg_op rfl (op_assign (v := (Value.bool (decide ((d.pending.length : Int) = 4096)))) rfl ?_)
        refine Rg_nil ?_
        refine Wp_cond rfl (fun hc33 => ?_) (fun hc33 => ?_)
        ·
          replace hm := bif_t hm hc33
          refine Wp_seq ?_
          obtain ⟨hs34, p35⟩ := hs17.sub (bs' := [(some b6, Obj.cells [(Value.slice none 0 0), (Value.slice none 0 0), (Value.int .i64 0), (Value.bool false)].toArray 25)]) (.cons_cons _ (.cons _ List.Sublist.slnil))
          clear f_d_sectors f_d_pending f_b
          clear p35 hs17
          refine Wp_region ?_  -- 6 disk.go:65
          refine Rg_op rfl (op_loadA (cs := [(Value.slice none 0 0), (Value.slice none 0 0), (Value.int .i64 0), (Value.bool false)]) (vs := [(Value.slice none 0 0), (Value.slice none 0 0), (Value.int .i64 0), (Value.bool false)]) (i := 0) ty25 hs34 rfl rfl rfl rfl ?_)
          refine Rg_op_ (op_store (cs := [(Value.slice none 0 0), (Value.slice none 0 0), (Value.int .i64 0), (Value.bool false)]) (vs := [(Value.slice none 0 0), (Value.slice none 0 0), (Value.int .i64 0), (Value.bool false)]) (cs' := [(Value.slice none 0 0), (Value.slice none 0 0), (Value.int .i64 0), (Value.bool false)]) (bs' := [(some b6, Obj.cells [(Value.slice none 0 0), (Value.slice none 0 0), (Value.int .i64 0), (Value.bool false)].toArray 25)]) (i := 0) ty25 hs34 rfl rfl rfl rfl rfl (le_lit rfl) rfl rfl rfl ?_)
          intro w36 p37 hs38
          clear p37 hs34
          refine Rg_op rfl (op_assign (v := (Value.int .i64 2)) rfl ?_)
          refine Rg_nil ?_
          refine Wp_ret ?_
          have hz := step_all hs38
          refine ⟨_, (show Closes [] _ _ from rfl), [(Value.agg [(Value.slice none 0 0), (Value.slice none 0 0), (Value.int .i64 0), (Value.bool false)].toArray), (Value.int .i64 2)], ⟨resA (cs := [(Value.slice none 0 0), (Value.slice none 0 0), (Value.int .i64 0), (Value.bool false)]) (vs := [(Value.slice none 0 0), (Value.slice none 0 0), (Value.int .i64 0), (Value.bool false)]) ty25 (i := 0) hs38 rfl rfl rfl rfl, rfl, trivial⟩, hs38.ext, ?_⟩
          exact Vr.eq (a := (vT2 (vA rXDisk) (vI .i64))) (x := ((⟨([] : List (List UInt8)), ([] : List XWrite), 0, false⟩ : XDisk), 2)) (mkT2 (mkA (mkVia (mk_pair (mk_sl SlR.nil_) (mk_pair (mk_sl SlR.nil_) (mk_pair (mk_int (show InK .i64 0 from by decide)) mkBool))))) ⟨rfl, (show InK .i64 2 from by decide)⟩) (Option.some.inj hm)
        ·
          replace hm := bif_f hm hc33
          refine Wp_skip ?_
          refine Wp_seq ?_
          refine Wp_region ?_  -- 7 disk.go:67
          replace hm := ck_some hm; obtain ⟨hc39, hm⟩ := hm
          refine Rg_op rfl (op_makeSliceI (q := rU8) (v := (Value.int .u8 0)) (x0 := (0 : UInt8)) ty41 ty5 hs17 rfl rfl hc39 rfl (fun _ _ => (mk_u8 (show InK .u8 0 from by decide))) ?_)
          intro b40 w41 hx45 p42 hs43 f44
          replace f_d_sectors := f_d_sectors.step p42
          replace f_d_pending := f_d_pending.step p42
          replace f_b := f_b.step p42
          clear p42 hs17
          refine Rg_op rfl (op_assign (v := (Value.slice (some ⟨b40, 0, none⟩) (List.replicate 128 (0 : UInt8)).length 128)) rfl ?_)
          refine Rg_nil ?_
          refine Wp_seq ?_
          refine Wp_region ?_  -- 8 disk.go:68
          refine Rg_op rfl (op_move (v := (Value.slice (some ⟨b40, 0, none⟩) (List.replicate 128 (0 : UInt8)).length 128)) rfl ?_)
          refine Rg_op rfl (op_move (v := (Value.slice a_b b.length c_b)) rfl ?_)
          replace hm := ck_some hm; obtain ⟨hc47, hm⟩ := hm
          refine Rg_op rfl (op_copyG (p := rU8) (i := 0) ty41 ty5 rfl hs43 rfl rfl f44 rfl f_b hc47 ?_)
          intro o51 w48 p49 hs50 f52
          replace f_d_sectors := f_d_sectors.step p49
          replace f_d_pending := f_d_pending.step p49
          replace f_b := f_b.step p49
          clear p49 hs43
          refine Rg_nil ?_
          refine Wp_seq ?_
          clear f_b
          refine Wp_region ?_  -- 9 disk.go:69
          refine Rg_op rfl (op_fieldAddr ty25 rfl ty23 (by decide) rfl (rfl : _ = (⟨_, 1, none⟩ : Addr)) ?_)
          refine Rg_op rfl (op_load (cs := [(Value.slice a_d_sectors d.sectors.length c_d_sectors), (Value.slice a_d_pending d.pending.length c_d_pending), (Value.int .i64 d.left), (Value.bool d.stopped)]) (i := 2) ty23 hs50 rfl rfl rfl ?_)
          replace hm := bd hm; obtain ⟨write_1, hv53, hm⟩ := hm
          refine Rg_op rfl (op_call Try.call50 (g50_api_Write_ (s := d.pending) hs50.ltw f_d_pending hv53) rfl ?_)
          rintro _ w55 ⟨hx56, a59, c60, k61, o62, rfl, hk63, f64⟩
          obtain ⟨hs58, p65⟩ := hs50.callG (o := o62) hx56 hk63
          rw [← ks_cons (o := o62)] at f64
          replace f_d_sectors := f_d_sectors.step p65
          replace f_d_pending := f_d_pending.step p65
          replace f52 := f52.step p65
          clear p65 hs50
          obtain ⟨hs68, p69, f67⟩ := Gs.publish (i := 0) hs58 rfl f64
          replace f_d_sectors := f_d_sectors.step p69
          replace f_d_pending := f_d_pending.step p69
          replace f52 := f52.step p69
          clear p69 hs58
          replace hm := bd hm; obtain ⟨write_2, hv70, hm⟩ := hm
          refine Rg_op rfl (op_call Try.call49 (c49_api_Write_ (s := write_1) hs68.ltw f67 hv70) rfl ?_)
          rintro v71 w72 ⟨hx73, h74⟩
          have hs75 := hs68.call hx73
          have p76 := Step.ext (O := ks [(some b40, o51), (some b6, Obj.cells [(Value.slice none 0 0), (Value.slice none 0 0), (Value.int .i64 0), (Value.bool false)].toArray 25), (some b1, Obj.cells [(Value.slice a_d_sectors d.sectors.length c_d_sectors), (Value.slice a_d_pending d.pending.length c_d_pending), (Value.int .i64 d.left), (Value.bool d.stopped)].toArray 25)] O) hx73
          clear hx73
          replace f_d_sectors := f_d_sectors.step p76
          replace f_d_pending := f_d_pending.step p76
          replace f52 := f52.step p76
          replace f67 := f67.step p76
          clear p76 hs68
          obtain ⟨a77, rfl, f78⟩ := h74
          refine Rg_op rfl (op_move (v := (Value.int .i64 at_)) rfl ?_)
          refine Rg_op rfl (op_move (v := (Value.slice (some ⟨b40, 0, none⟩) (b.take (List.replicate 128 (0 : UInt8)).length ++ (List.replicate 128 (0 : UInt8)).drop b.length).length 128)) (eqlen rfl (show (List.replicate 128 (0 : UInt8)).length = (b.take (List.replicate 128 (0 : UInt8)).length ++ (List.replicate 128 (0 : UInt8)).drop b.length).length from by first | (simp; done) | (simp; omega))) ?_)
          refine Rg_op rfl (op_build (vs := [(Value.int .i64 at_), (Value.slice (some ⟨b40, 0, none⟩) (b.take (List.replicate 128 (0 : UInt8)).length ++ (List.replicate 128 (0 : UInt8)).drop b.length).length 128)]) (parts := [(0, .tmp 39), (1, .tmp 40)]) ty73 pl73 rfl ?_)
          obtain ⟨hs80, p81, f79⟩ := Gs.publish (i := 0) hs75 rfl f52
          replace f_d_sectors := f_d_sectors.step p81
          replace f_d_pending := f_d_pending.step p81
          replace f67 := f67.step p81
          replace f78 := f78.step p81
          clear p81 hs75
          refine Rg_op rfl (op_buildSlice (cs := [(Value.int .i64 at_), (Value.slice (some ⟨b40, 0, none⟩) (b.take (List.replicate 128 (0 : UInt8)).length ++ (List.replicate 128 (0 : UInt8)).drop b.length).length 128)]) (parts := [(0, .tmp 41)]) ty23 ty73 hs80 (by decide) rfl ?_)
          intro b82 w83 hx86 p84 hs85
          replace f_d_sectors := f_d_sectors.step p84
          replace f_d_pending := f_d_pending.step p84
          replace f67 := f67.step p84
          replace f78 := f78.step p84
          replace f79 := f79.step p84
          clear p84 hs80
          replace hm := ck_some hm; obtain ⟨hc88, hm⟩ := hm
          refine Rg_op rfl (op_appendP (q := rXWrite) (xs := write_2) (ys := [(⟨at_, (b.take (List.replicate 128 (0 : UInt8)).length ++ (List.replicate 128 (0 : UInt8)).drop b.length)⟩ : XWrite)]) (news := [(Value.int .i64 at_), (Value.slice (some ⟨b40, 0, none⟩) (b.take (List.replicate 128 (0 : UInt8)).length ++ (List.replicate 128 (0 : UInt8)).drop b.length).length 128)]) ty23 ty73 rfl (by decide) hs85 rfl f78 rfl (Src.owned' (len := 2) (hs85.get (i := 0) rfl) rfl) (show Els rXWrite _ _ [(Value.int .i64 at_), (Value.slice (some ⟨b40, 0, none⟩) (b.take (List.replicate 128 (0 : UInt8)).length ++ (List.replicate 128 (0 : UInt8)).drop b.length).length 128)] [(⟨at_, (b.take (List.replicate 128 (0 : UInt8)).length ++ (List.replicate 128 (0 : UInt8)).drop b.length)⟩ : XWrite)] from ⟨_, _, rfl, (mkVia (mk_pair (mk_int r_at_) (mk_sl f79))), Els.nil⟩) (le_lit rfl) hc88 (by have := hc88; simp only [maxLen]; omega) ?_)
          intro a92 c93 w89 p90 hs91 f94
          replace f_d_sectors := f_d_sectors.step p90
          replace f_d_pending := f_d_pending.step p90
          replace f67 := f67.step p90
          replace f78 := f78.step p90
          replace f79 := f79.step p90
          clear p90 hs85
          have hs95 := hs91.drop 0
          replace f_d_sectors := f_d_sectors.step (Step.drop _ _ [(some b82, Obj.cells [(Value.int .i64 at_), (Value.slice (some ⟨b40, 0, none⟩) (b.take (List.replicate 128 (0 : UInt8)).length ++ (List.replicate 128 (0 : UInt8)).drop b.length).length 128)].toArray 73), (some b6, Obj.cells [(Value.slice none 0 0), (Value.slice none 0 0), (Value.int .i64 0), (Value.bool false)].toArray 25), (some b1, Obj.cells [(Value.slice a_d_sectors d.sectors.length c_d_sectors), (Value.slice a_d_pending d.pending.length c_d_pending), (Value.int .i64 d.left), (Value.bool d.stopped)].toArray 25)] 0)
          replace f_d_pending := f_d_pending.step (Step.drop _ _ [(some b82, Obj.cells [(Value.int .i64 at_), (Value.slice (some ⟨b40, 0, none⟩) (b.take (List.replicate 128 (0 : UInt8)).length ++ (List.replicate 128 (0 : UInt8)).drop b.length).length 128)].toArray 73), (some b6, Obj.cells [(Value.slice none 0 0), (Value.slice none 0 0), (Value.int .i64 0), (Value.bool false)].toArray 25), (some b1, Obj.cells [(Value.slice a_d_sectors d.sectors.length c_d_sectors), (Value.slice a_d_pending d.pending.length c_d_pending), (Value.int .i64 d.left), (Value.bool d.stopped)].toArray 25)] 0)
          replace f67 := f67.step (Step.drop _ _ [(some b82, Obj.cells [(Value.int .i64 at_), (Value.slice (some ⟨b40, 0, none⟩) (b.take (List.replicate 128 (0 : UInt8)).length ++ (List.replicate 128 (0 : UInt8)).drop b.length).length 128)].toArray 73), (some b6, Obj.cells [(Value.slice none 0 0), (Value.slice none 0 0), (Value.int .i64 0), (Value.bool false)].toArray 25), (some b1, Obj.cells [(Value.slice a_d_sectors d.sectors.length c_d_sectors), (Value.slice a_d_pending d.pending.length c_d_pending), (Value.int .i64 d.left), (Value.bool d.stopped)].toArray 25)] 0)
          replace f78 := f78.step (Step.drop _ _ [(some b82, Obj.cells [(Value.int .i64 at_), (Value.slice (some ⟨b40, 0, none⟩) (b.take (List.replicate 128 (0 : UInt8)).length ++ (List.replicate 128 (0 : UInt8)).drop b.length).length 128)].toArray 73), (some b6, Obj.cells [(Value.slice none 0 0), (Value.slice none 0 0), (Value.int .i64 0), (Value.bool false)].toArray 25), (some b1, Obj.cells [(Value.slice a_d_sectors d.sectors.length c_d_sectors), (Value.slice a_d_pending d.pending.length c_d_pending), (Value.int .i64 d.left), (Value.bool d.stopped)].toArray 25)] 0)
          replace f79 := f79.step (Step.drop _ _ [(some b82, Obj.cells [(Value.int .i64 at_), (Value.slice (some ⟨b40, 0, none⟩) (b.take (List.replicate 128 (0 : UInt8)).length ++ (List.replicate 128 (0 : UInt8)).drop b.length).length 128)].toArray 73), (some b6, Obj.cells [(Value.slice none 0 0), (Value.slice none 0 0), (Value.int .i64 0), (Value.bool false)].toArray 25), (some b1, Obj.cells [(Value.slice a_d_sectors d.sectors.length c_d_sectors), (Value.slice a_d_pending d.pending.length c_d_pending), (Value.int .i64 d.left), (Value.bool d.stopped)].toArray 25)] 0)
          replace f94 := f94.step (Step.drop _ _ [(some b82, Obj.cells [(Value.int .i64 at_), (Value.slice (some ⟨b40, 0, none⟩) (b.take (List.replicate 128 (0 : UInt8)).length ++ (List.replicate 128 (0 : UInt8)).drop b.length).length 128)].toArray 73), (some b6, Obj.cells [(Value.slice none 0 0), (Value.slice none 0 0), (Value.int .i64 0), (Value.bool false)].toArray 25), (some b1, Obj.cells [(Value.slice a_d_sectors d.sectors.length c_d_sectors), (Value.slice a_d_pending d.pending.length c_d_pending), (Value.int .i64 d.left), (Value.bool d.stopped)].toArray 25)] 0)
          clear hs91
          refine Rg_op rfl (op_fieldAddr ty25 rfl ty23 (by decide) rfl (rfl : _ = (⟨_, 1, none⟩ : Addr)) ?_)
          refine Rg_op_ (op_store (cs := [(Value.slice a_d_sectors d.sectors.length c_d_sectors), (Value.slice a_d_pending d.pending.length c_d_pending), (Value.int .i64 d.left), (Value.bool d.stopped)]) (vs := [(Value.slice a92 (write_2 ++ [(⟨at_, (b.take (List.replicate 128 (0 : UInt8)).length ++ (List.replicate 128 (0 : UInt8)).drop b.length)⟩ : XWrite)]).length c93)]) (cs' := [(Value.slice a_d_sectors d.sectors.length c_d_sectors), (Value.slice a92 (write_2 ++ [(⟨at_, (b.take (List.replicate 128 (0 : UInt8)).length ++ (List.replicate 128 (0 : UInt8)).drop b.length)⟩ : XWrite)]).length c93), (Value.int .i64 d.left), (Value.bool d.stopped)]) (bs' := [(some b6, Obj.cells [(Value.slice none 0 0), (Value.slice none 0 0), (Value.int .i64 0), (Value.bool false)].toArray 25), (some b1, Obj.cells [(Value.slice a_d_sectors d.sectors.length c_d_sectors), (Value.slice a92 (write_2 ++ [(⟨at_, (b.take (List.replicate 128 (0 : UInt8)).length ++ (List.replicate 128 (0 : UInt8)).drop b.length)⟩ : XWrite)]).length c93), (Value.int .i64 d.left), (Value.bool d.stopped)].toArray 25)]) (i := 1) ty23 hs95 rfl rfl rfl rfl rfl (le_lit rfl) rfl rfl rfl ?_)
          intro w96 p97 hs98
          replace f_d_sectors := f_d_sectors.step p97
          replace f_d_pending := f_d_pending.step p97
          replace f67 := f67.step p97
          replace f78 := f78.step p97
          replace f79 := f79.step p97
          replace f94 := f94.step p97
          clear p97 hs95
          refine Rg_nil ?_
          refine Wp_seq ?_
          clear f_d_pending f67 f78 f79
          refine Wp_reset [] [(3, (Value.pointer (some ⟨b1, 0, none⟩))), (6, (Value.pointer (some ⟨b6, 0, none⟩)))] rfl ⟨rfl, rfl, trivial⟩ fun ξ99 => ?_
          refine Wp_region ?_  -- 10 disk.go:70
          refine Rg_op rfl (op_loadA (cs := [(Value.slice a_d_sectors d.sectors.length c_d_sectors), (Value.slice a92 (write_2 ++ [(⟨at_, (b.take (List.replicate 128 (0 : UInt8)).length ++ (List.replicate 128 (0 : UInt8)).drop b.length)⟩ : XWrite)]).length c93), (Value.int .i64 d.left), (Value.bool d.stopped)]) (vs := [(Value.slice a_d_sectors d.sectors.length c_d_sectors), (Value.slice a92 (write_2 ++ [(⟨at_, (b.take (List.replicate 128 (0 : UInt8)).length ++ (List.replicate 128 (0 : UInt8)).drop b.length)⟩ : XWrite)]).length c93), (Value.int .i64 d.left), (Value.bool d.stopped)]) (i := 1) ty25 hs98 rfl rfl rfl rfl ?_)
          refine Rg_op_ (op_store (cs := [(Value.slice none 0 0), (Value.slice none 0 0), (Value.int .i64 0), (Value.bool false)]) (vs := [(Value.slice a_d_sectors d.sectors.length c_d_sectors), (Value.slice a92 (write_2 ++ [(⟨at_, (b.take (List.replicate 128 (0 : UInt8)).length ++ (List.replicate 128 (0 : UInt8)).drop b.length)⟩ : XWrite)]).length c93), (Value.int .i64 d.left), (Value.bool d.stopped)]) (cs' := [(Value.slice a_d_sectors d.sectors.length c_d_sectors), (Value.slice a92 (write_2 ++ [(⟨at_, (b.take (List.replicate 128 (0 : UInt8)).length ++ (List.replicate 128 (0 : UInt8)).drop b.length)⟩ : XWrite)]).length c93), (Value.int .i64 d.left), (Value.bool d.stopped)]) (bs' := [(some b6, Obj.cells [(Value.slice a_d_sectors d.sectors.length c_d_sectors), (Value.slice a92 (write_2 ++ [(⟨at_, (b.take (List.replicate 128 (0 : UInt8)).length ++ (List.replicate 128 (0 : UInt8)).drop b.length)⟩ : XWrite)]).length c93), (Value.int .i64 d.left), (Value.bool d.stopped)].toArray 25), (some b1, Obj.cells [(Value.slice a_d_sectors d.sectors.length c_d_sectors), (Value.slice a92 (write_2 ++ [(⟨at_, (b.take (List.replicate 128 (0 : UInt8)).length ++ (List.replicate 128 (0 : UInt8)).drop b.length)⟩ : XWrite)]).length c93), (Value.int .i64 d.left), (Value.bool d.stopped)].toArray 25)]) (i := 0) ty25 hs98 rfl rfl rfl rfl rfl (le_lit rfl) rfl rfl rfl ?_)
          intro w100 p101 hs102
          replace f_d_sectors := f_d_sectors.step p101
          replace f94 := f94.step p101
          clear p101 hs98
          refine Rg_op rfl (op_assign (v := (Value.int .i64 0)) rfl ?_)
          refine Rg_nil ?_
          refine Wp_ret ?_
          have hz := step_all hs102
          replace f_d_sectors := f_d_sectors.step hz
          replace f94 := f94.step hz
          refine ⟨_, (show Closes [] _ _ from rfl), [(Value.agg [(Value.slice a_d_sectors d.sectors.length c_d_sectors), (Value.slice a92 (write_2 ++ [(⟨at_, (b.take (List.replicate 128 (0 : UInt8)).length ++ (List.replicate 128 (0 : UInt8)).drop b.length)⟩ : XWrite)]).length c93), (Value.int .i64 d.left), (Value.bool d.stopped)].toArray), (Value.int .i64 0)], ⟨resA (cs := [(Value.slice a_d_sectors d.sectors.length c_d_sectors), (Value.slice a92 (write_2 ++ [(⟨at_, (b.take (List.replicate 128 (0 : UInt8)).length ++ (List.replicate 128 (0 : UInt8)).drop b.length)⟩ : XWrite)]).length c93), (Value.int .i64 d.left), (Value.bool d.stopped)]) (vs := [(Value.slice a_d_sectors d.sectors.length c_d_sectors), (Value.slice a92 (write_2 ++ [(⟨at_, (b.take (List.replicate 128 (0 : UInt8)).length ++ (List.replicate 128 (0 : UInt8)).drop b.length)⟩ : XWrite)]).length c93), (Value.int .i64 d.left), (Value.bool d.stopped)]) ty25 (i := 0) hs102 rfl rfl rfl rfl, rfl, trivial⟩, hs102.ext, ?_⟩
          exact Vr.eq (a := (vT2 (vA rXDisk) (vI .i64))) (x := ((⟨d.sectors, (write_2 ++ [(⟨at_, (b.take (List.replicate 128 (0 : UInt8)).length ++ (List.replicate 128 (0 : UInt8)).drop b.length)⟩ : XWrite)]), d.left, d.stopped⟩ : XDisk), 0)) (mkT2 (mkA (mkVia (mk_pair (mk_sl f_d_sectors) (mk_pair (mk_sl f94) (mk_pair (mk_int r_d_left) mkBool))))) ⟨rfl, (show InK .i64 0 from by decide)⟩) (Option.some.inj hm)
  ·
    intro K15 hK15
    have ch103 := Step.refl (ks [(some b6, Obj.cells [(Value.slice none 0 0), (Value.slice none 0 0), (Value.int .i64 0), (Value.bool false)].toArray 25), (some b1, Obj.cells [(Value.slice a_d_sectors d.sectors.length c_d_sectors), (Value.slice a_d_pending d.pending.length c_d_pending), (Value.int .i64 d.left), (Value.bool d.stopped)].toArray 25)] O) w7
    refine Wp_region ?_  -- 1 disk.go:60
    refine Rg_op rfl (op_loadA (cs := [(Value.slice a_d_sectors d.sectors.length c_d_sectors), (Value.slice a_d_pending d.pending.length c_d_pending), (Value.int .i64 d.left), (Value.bool d.stopped)]) (vs := [(Value.slice a_d_sectors d.sectors.length c_d_sectors), (Value.slice a_d_pending d.pending.length c_d_pending), (Value.int .i64 d.left), (Value.bool d.stopped)]) (i := 1) ty25 hs9 rfl rfl rfl rfl ?_)
    replace hm := bd hm; obtain ⟨runs_1, hv104, hm⟩ := hm
    refine Rg_op rfl (op_call Try.call47 (c47_disk_runs (d := d) hs9.ltw f_d_sectors f_d_pending r_d_left hv104) rfl ?_)
    rintro v105 w106 ⟨hx107, h108⟩
    have hs109 := hs9.call hx107
    have p110 := Step.ext (O := ks [(some b6, Obj.cells [(Value.slice none 0 0), (Value.slice none 0 0), (Value.int .i64 0), (Value.bool false)].toArray 25), (some b1, Obj.cells [(Value.slice a_d_sectors d.sectors.length c_d_sectors), (Value.slice a_d_pending d.pending.length c_d_pending), (Value.int .i64 d.left), (Value.bool d.stopped)].toArray 25)] O) hx107
    clear hx107
    replace f_d_sectors := f_d_sectors.step p110
    replace f_d_pending := f_d_pending.step p110
    replace f_b := f_b.step p110
    replace ch103 := ch103.trans p110
    clear p110 hs9
    obtain rfl := h108
    refine Rg_op rfl (op_not rfl ?_)
    refine Rg_op rfl (op_move (v := (Value.bool (!runs_1))) rfl ?_)
    refine Rg_case (fun hg112 => ?_) (fun hg112 => ?_)
    ·
      replace hm := bif_t hm hg112
      refine Rg_opx rfl (asB_ne rfl rfl) rfl ?_
      refine Rg_opx rfl (asB_ne rfl rfl) rfl ?_
      refine Rg_opx rfl (asB_ne rfl rfl) rfl ?_
      refine Rg_opx rfl (asB_ne rfl rfl) rfl ?_
      refine Rg_op rfl (op_pick_t (v := (Value.bool true)) rfl rfl ?_)
      refine Rg_op rfl (op_assign (v := (Value.bool true)) rfl ?_)
      refine Rg_nil ?_
      exact hK15 _ _ ⟨true, _, rfl, ⟨(by repeat (first | with_reducible exact Out.refl _ _ | refine Out.upd ?_ rfl | refine Out.updL ?_ rfl | refine Out.mix' ?_ rfl | exact Out.refl _ _)), rfl, rfl, trivial⟩, ch103, hs109, hm⟩
    ·
      replace hm := bif_f hm hg112
      refine Rg_opg rfl rfl rfl (op_loadA (cs := [(Value.slice a_d_sectors d.sectors.length c_d_sectors), (Value.slice a_d_pending d.pending.length c_d_pending), (Value.int .i64 d.left), (Value.bool d.stopped)]) (vs := [(Value.slice a_d_sectors d.sectors.length c_d_sectors), (Value.slice a_d_pending d.pending.length c_d_pending), (Value.int .i64 d.left), (Value.bool d.stopped)]) (i := 1) ty25 hs109 rfl rfl rfl rfl ?_)
      refine Rg_opg rfl rfl rfl (op_move (v := (Value.int .i64 at_)) rfl ?_)
      replace hm := bd hm; obtain ⟨has_1, hv113, hm⟩ := hm
      refine Rg_opg rfl rfl rfl (op_call Try.call48 (c48_disk_has (d := d) (at_ := at_) hs109.ltw f_d_sectors f_d_pending r_d_left r_at_ hv113) rfl ?_)
      rintro v114 w115 ⟨hx116, h117⟩
      have hs118 := hs109.call hx116
      have p119 := Step.ext (O := ks [(some b6, Obj.cells [(Value.slice none 0 0), (Value.slice none 0 0), (Value.int .i64 0), (Value.bool false)].toArray 25), (some b1, Obj.cells [(Value.slice a_d_sectors d.sectors.length c_d_sectors), (Value.slice a_d_pending d.pending.length c_d_pending), (Value.int .i64 d.left), (Value.bool d.stopped)].toArray 25)] O) hx116
      clear hx116
      replace f_d_sectors := f_d_sectors.step p119
      replace f_d_pending := f_d_pending.step p119
      replace f_b := f_b.step p119
      replace ch103 := ch103.trans p119
      clear p119 hs109
      obtain rfl := h117
      refine Rg_opg rfl rfl rfl (op_not rfl ?_)
      refine Rg_op rfl (op_pick_f (v := (Value.bool (!has_1))) rfl rfl ?_)
      refine Rg_op rfl (op_assign (v := (Value.bool (!has_1))) rfl ?_)
      refine Rg_nil ?_
      exact hK15 _ _ ⟨(!has_1), _, rfl, ⟨(by repeat (first | with_reducible exact Out.refl _ _ | refine Out.upd ?_ rfl | refine Out.updL ?_ rfl | refine Out.mix' ?_ rfl | exact Out.refl _ _)), rfl, rfl, trivial⟩, ch103, hs118, hm⟩

end Go.Fx


set_option linter.unusedVariables false
set_option linter.unusedSimpArgs false
set_option maxRecDepth 100000
set_option maxHeartbeats 0
namespace Go.Fx
open Go Go.RowKit Go.Proofs
def m24_overflightlaw44_double (c : UInt8) : Option (List UInt8) :=
  ck ((0 : Int) ≤ (128 : Int) ∧ (128 : Int) ≤ (128 : Int) ∧ (1 : Int) * 128 ≤ 281474976710656 ∧ (128 : Int) ≤ 281474976710656) <|
  ck ((0 : Int) ≤ 0 ∧ 0 < ((List.replicate 128 (0 : UInt8)).length : Int)) <|
  ck ((0 : Int) ≤ 64 ∧ 64 < (((List.replicate 128 (0 : UInt8)).set 0 c).length : Int)) <|
  some (((List.replicate 128 (0 : UInt8)).set 0 c).set 64 c)

theorem g24_overflightlaw44_double {w : World} {O : List Nat} {c : UInt8} (hO : ∀ k ∈ O, k < w.heap.size) {x : (List UInt8)} (hm : m24_overflightlaw44_double c = some x) :
    OkG Try.prog 24 [(Value.int .u8 (c.toNat : Int))] w O rU8 5 x := by
  unfold m24_overflightlaw44_double at hm
  refine Fn_of_Wp (n := 12) (xs := [.tmp 2]) Try.func24 rfl Try.ntmps24 Try.results24 rfl ?_
  have hs := St.start hO
  refine Wp_seq ?_
  refine Wp_region ?_  -- 0 law.go:82
  refine Rg_op rfl (op_assign (v := (Value.slice none 0 0)) rfl ?_)
  refine Rg_nil ?_
  refine Wp_seq ?_
  refine Wp_region ?_  -- 1 law.go:83
  replace hm := ck_some hm; obtain ⟨hc1, hm⟩ := hm
  refine Rg_op rfl (op_makeSliceI (q := rU8) (v := (Value.int .u8 0)) (x0 := (0 : UInt8)) ty41 ty5 hs rfl rfl hc1 rfl (fun _ _ => (mk_u8 (show InK .u8 0 from by decide))) ?_)
  intro b2 w3 hx7 p4 hs5 f6
  clear p4
  refine Rg_op rfl (op_assign (v := (Value.slice (some ⟨b2, 0, none⟩) (List.replicate 128 (0 : UInt8)).length 128)) rfl ?_)
  refine Rg_nil ?_
  refine Wp_seq ?_
  refine Wp_region ?_  -- 2 law.go:84
  refine Rg_op rfl (op_move (v := (Value.slice (some ⟨b2, 0, none⟩) (List.replicate 128 (0 : UInt8)).length 128)) rfl ?_)
  refine Rg_op rfl (op_move (v := (Value.slice (some ⟨b2, 0, none⟩) (List.replicate 128 (0 : UInt8)).length 128)) rfl ?_)
  refine Rg_op rfl (op_move (v := (Value.int .u8 (c.toNat : Int))) rfl ?_)
  refine Rg_op rfl (op_move (v := (Value.int .u8 (c.toNat : Int))) rfl ?_)
  replace hm := ck_some hm; obtain ⟨hc9, hm⟩ := hm
  refine Rg_op rfl (op_indexAddrG ty41 ty5 rfl rfl f6 hc9 ?_)
  rintro _ ⟨⟩ -
  refine Rg_op_ (op_storeG (vs := [(Value.int .u8 (c.toNat : Int))]) (i := 0) ty5 rfl hs5 rfl rfl rfl rfl f6 hc9 mkU8 ?_)
  intro w11 o14 p12 hs13 f15
  clear p12 hs5
  replace hm := ck_some hm; obtain ⟨hc16, hm⟩ := hm
  refine Rg_op rfl (op_indexAddrG ty41 ty5 (eqlen rfl (show (List.replicate 128 (0 : UInt8)).length = ((List.replicate 128 (0 : UInt8)).set 0 c).length from by first | (simp; done) | (simp; omega))) rfl f15 hc16 ?_)
  rintro _ ⟨⟩ -
  refine Rg_op_ (op_storeG (vs := [(Value.int .u8 (c.toNat : Int))]) (i := 0) ty5 rfl hs13 rfl rfl rfl rfl f15 hc16 mkU8 ?_)
  intro w18 o21 p19 hs20 f22
  clear p19 hs13
  refine Rg_nil ?_
  refine Wp_seq ?_
  refine Wp_region ?_  -- 3 law.go:85
  refine Rg_op rfl (op_move (v := (Value.slice (some ⟨b2, 0, none⟩) (((List.replicate 128 (0 : UInt8)).set 0 c).set 64 c).length 128)) (eqlen rfl (show (List.replicate 128 (0 : UInt8)).length = (((List.replicate 128 (0 : UInt8)).set 0 c).set 64 c).length from by first | (simp; done) | (simp; omega))) ?_)
  refine Rg_op rfl (op_assign (v := (Value.slice (some ⟨b2, 0, none⟩) (((List.replicate 128 (0 : UInt8)).set 0 c).set 64 c).length 128)) rfl ?_)
  refine Rg_nil ?_
  refine Wp_ret ?_
  refine ⟨_, (show Closes [] _ _ from rfl), [(Value.slice (some ⟨b2, 0, none⟩) (((List.replicate 128 (0 : UInt8)).set 0 c).set 64 c).length 128)], ⟨rfl, trivial⟩, hs20.ext, ?_⟩
  exact OkG.mk (i := 0) hs20 rfl f22 (Option.some.inj hm)
theorem c24_overflightlaw44_double {w : World} {O : List Nat} {c : UInt8} (hO : ∀ k ∈ O, k < w.heap.size) {x : (List UInt8)} (hm : m24_overflightlaw44_double c = some x) :
    Ok Try.prog 24 [(Value.int .u8 (c.toNat : Int))] w O (vC (rSl rU8)) x :=
  (g24_overflightlaw44_double hO  hm).ok hO

end Go.Fx


set_option linter.unusedVariables false
set_option linter.unusedSimpArgs false
set_option maxRecDepth 100000
set_option maxHeartbeats 0
namespace Go.Fx
open Go Go.RowKit Go.Proofs
def m67_slices_Clonebyte_byte_ (s : List (List UInt8)) : Option (List (List UInt8)) :=
  ck ((([] : List (List UInt8)).length + s.length) * 24 ≤ 140737488355328) <|
  some (([] : List (List UInt8)) ++ s)

theorem g67_slices_Clonebyte_byte_ {w : World} {O : List Nat} {s : List (List UInt8)} {a_s : Option Addr} {c_s : Nat} (hO : ∀ k ∈ O, k < w.heap.size) (f_s : SlR (rSl rU8) w O a_s c_s s) {x : (List (List UInt8))} (hm : m67_slices_Clonebyte_byte_ s = some x) :
    OkG Try.prog 67 [(Value.slice a_s s.length c_s)] w O (rSl rU8) 41 x := by
  unfold m67_slices_Clonebyte_byte_ at hm
  refine Fn_of_Wp (n := 8) (xs := [.tmp 2]) Try.func67 rfl Try.ntmps67 Try.results67 rfl ?_
  have hs := St.start hO
  refine Wp_seq ?_
  refine Wp_region ?_  -- 0 slices.go:355
  refine Rg_op rfl (op_assign (v := (Value.slice none 0 0)) rfl ?_)
  refine Rg_nil ?_
  refine Wp_seq ?_
  refine Wp_seq ?_
  refine Wp_region ?_  -- 1 slices.go:357
  refine Rg_op rfl (op_move (v := (Value.slice a_s s.length c_s)) rfl ?_)
  refine Rg_op rfl (op_eqnil Try.underlying22 rfl rfl ?_)
  refine Rg_nil ?_
  rcases a_s with _ | ad1
  ·
    have hnil2 := (f_s.nil rfl).1
    refine Wp_cond_t rfl ?_
    refine Wp_seq ?_
    clear f_s
    refine Wp_region ?_  -- 2 slices.go:358
    refine Rg_op rfl (op_assign (v := (Value.slice none 0 0)) rfl ?_)
    refine Rg_nil ?_
    refine Wp_ret ?_
    refine ⟨_, (show Closes [] _ _ from rfl), [(Value.slice none 0 0)], ⟨rfl, trivial⟩, hs.ext, ?_⟩
    exact OkG.mkNil (by simp [ck, hnil2] at hm; first | exact hm | (subst hm; simp [hnil2]) | simpa using hm)
  ·
    refine Wp_cond_f rfl ?_
    refine Wp_skip ?_
    refine Wp_seq ?_
    refine Wp_region ?_  -- 3 slices.go:362
    refine Rg_op rfl (op_buildSlice (cs := []) (parts := []) ty22 ty41 hs (by decide) rfl ?_)
    intro b3 w4 hx7 p5 hs6
    replace f_s := f_s.step p5
    clear p5
    refine Rg_op rfl (op_move (v := (Value.slice (some ad1) s.length c_s)) rfl ?_)
    have f9 := Gs.of_cells (p := (rSl rU8)) (e := 41) (bl := b3) (c := 0) (w := w4) (O := ks [(some b3, Obj.cells [].toArray 41)] O) (show Els (rSl rU8) _ _ [] [] from Els.nil) rfl (le_lit rfl)
    replace hm := ck_some hm; obtain ⟨hc10, hm⟩ := hm
    obtain ⟨ns11, he12, hr13⟩ := f_s.src
    refine Rg_op rfl (op_append (q := (rSl rU8)) (i := 0) (xs := ([] : List (List UInt8))) (ys := s) (news := ns11) ty22 ty41 rfl (by decide) hs6 rfl rfl f9 rfl hr13 he12 hc10 (by have := hc10; simp only [maxLen]; omega) ?_)
    intro a17 c18 k19 o20 w14 p15 hs16 f21
    replace f_s := f_s.step p15
    clear p15 hs6
    refine Rg_op rfl (op_assign (v := (Value.slice a17 (([] : List (List UInt8)) ++ s).length c18)) rfl ?_)
    refine Rg_nil ?_
    refine Wp_ret ?_
    refine ⟨_, (show Closes [] _ _ from rfl), [(Value.slice a17 (([] : List (List UInt8)) ++ s).length c18)], ⟨rfl, trivial⟩, hs16.ext, ?_⟩
    exact OkG.mk (i := 0) hs16 rfl f21 (Option.some.inj hm)
theorem c67_slices_Clonebyte_byte_ {w : World} {O : List Nat} {s : List (List UInt8)} {a_s : Option Addr} {c_s : Nat} (hO : ∀ k ∈ O, k < w.heap.size) (f_s : SlR (rSl rU8) w O a_s c_s s) {x : (List (List UInt8))} (hm : m67_slices_Clonebyte_byte_ s = some x) :
    Ok Try.prog 67 [(Value.slice a_s s.length c_s)] w O (vC (rSl (rSl rU8))) x :=
  (g67_slices_Clonebyte_byte_ hO f_s hm).ok hO

end Go.Fx


set_option linter.unusedVariables false
set_option linter.unusedSimpArgs false
set_option maxRecDepth 100000
set_option maxHeartbeats 0
namespace Go.Fx
open Go Go.RowKit Go.Proofs
def m51_disk_perform_B0 (l : List XWrite) (sf18 : (List (List UInt8)) → Int → Option (List (List UInt8))) (out_1 : List (List UInt8)) (v_1 : Int) : Option (List (List UInt8)) :=
  bif (decide (v_1 < (l.length : Int))) then
    ck ((0 : Int) ≤ v_1 ∧ v_1 < (l.length : Int)) <|
    ck ((0 : Int) ≤ ((l.getD v_1.toNat default).at_) ∧ ((l.getD v_1.toNat default).at_) < (out_1.length : Int)) <|
    sf18 (out_1.set ((l.getD v_1.toNat default).at_).toNat ((l.getD v_1.toNat default).data)) (IntKind.wrap .i64 (v_1 + 1))
  else
    some out_1

def m51_disk_perform (sectors : List (List UInt8)) (l : List XWrite) : Option (List (List UInt8)) :=
  (m67_slices_Clonebyte_byte_ sectors).bind fun clone_1 =>
  loop2 (m51_disk_perform_B0 l) (((l.length : Int) - 0).toNat + 1) clone_1 0

theorem g51_disk_perform {w : World} {O : List Nat} {sectors : List (List UInt8)} {l : List XWrite} {a_sectors : Option Addr} {c_sectors : Nat} {a_l : Option Addr} {c_l : Nat} (hO : ∀ k ∈ O, k < w.heap.size) (f_sectors : SlR (rSl rU8) w O a_sectors c_sectors sectors) (f_l : SlR rXWrite w O a_l c_l l) {x : (List (List UInt8))} (hm : m51_disk_perform sectors l = some x) :
    OkG Try.prog 51 [(Value.slice a_sectors sectors.length c_sectors), (Value.slice a_l l.length c_l)] w O (rSl rU8) 41 x := by
  unfold m51_disk_perform at hm
  refine Fn_of_Wp (n := 24) (xs := [.tmp 4]) Try.func51 rfl Try.ntmps51 Try.results51 rfl ?_
  have hs := St.start hO
  refine Wp_seq ?_
  refine Wp_region ?_  -- 0 disk.go:74
  refine Rg_op rfl (op_assign (v := (Value.slice none 0 0)) rfl ?_)
  refine Rg_nil ?_
  refine Wp_seq ?_
  refine Wp_region ?_  -- 1 disk.go:75
  refine Rg_op rfl (op_move (v := (Value.slice a_sectors sectors.length c_sectors)) rfl ?_)
  replace hm := bd hm; obtain ⟨clone_1, hv1, hm⟩ := hm
  refine Rg_op rfl (op_call Try.call67 (g67_slices_Clonebyte_byte_ (s := sectors) hs.ltw f_sectors hv1) rfl ?_)
  rintro _ w3 ⟨hx4, a7, c8, k9, o10, rfl, hk11, f12⟩
  obtain ⟨hs6, p13⟩ := hs.callG (o := o10) hx4 hk11
  rw [← ks_cons (o := o10)] at f12
  replace f_sectors := f_sectors.step p13
  replace f_l := f_l.step p13
  clear p13
  refine Rg_op rfl (op_assign (v := (Value.slice a7 clone_1.length c8)) rfl ?_)
  refine Rg_nil ?_
  refine Wp_seq ?_
  refine Wp_seq ?_
  clear f_sectors
  refine Wp_region ?_  -- 2 disk.go:76
  refine Rg_op rfl (op_move (v := (Value.slice a_l l.length c_l)) rfl ?_)
  refine Rg_op rfl (op_len Try.underlying23 rfl ?_)
  refine Rg_op rfl (op_move (v := (Value.int .i64 0)) rfl ?_)
  refine Rg_nil ?_
  refine Wp_block ?_
  refine Wp_reset [] [(5, (Value.slice a7 clone_1.length c8)), (10, (Value.slice a_l l.length c_l)), (11, (Value.int .i64 (l.length : Int))), (12, (Value.int .i64 0))] rfl ⟨rfl, rfl, rfl, rfl, trivial⟩ fun ξ17 => ?_
  refine Wp_loopM [5, 7, 12, 13, 14, 15, 16, 17, 18, 19, 20, 21, 22] (fun m fr w' => ∃ (out_1 : List (List UInt8)) (v_1 : Int) (a_g15 : Option Addr) (c_g15 : Nat) (k_g15 : Option Nat) (o_g15 : Obj) (Ebs : Ents), Ebs = [(k_g15, o_g15)] ∧ fr [] [(5, (Value.slice a_g15 out_1.length c_g15)), (12, (Value.int .i64 v_1))] ∧ Step (ks [(k9, o10)] O) w3 (ks Ebs O) w' ∧ St ⟨w, [], []⟩ O w' Ebs ∧ Gs (rSl rU8) 41 w' (ks Ebs O) a_g15 c_g15 out_1 k_g15 o_g15 ∧ InK .i64 v_1 ∧ loop2 (m51_disk_perform_B0 l) m out_1 v_1 = some x) (((l.length : Int) - 0).toNat + 1) ⟨clone_1, 0, a7, c8, k9, o10, _, rfl, ⟨Out.refl _ _, rfl, rfl, rfl, trivial⟩, Step.refl _ _, hs6, f12, (show InK .i64 0 from by decide), hm⟩ ?_ ?_
  · rintro _ _ ⟨_, _, _, _, _, _, _, _, _, _, _, _, _, hm⟩; exact loop2_z hm
  · rintro m21 K20 hK20 ρ26 w22 ⟨out_1, v_1, a_g15, c_g15, k_g15, o_g15, Ebs, hEbs, hfr25, hst24, hs23, f_g15, r_y16, hm⟩
    obtain ⟨sf18, hsf19, hm⟩ := loop2_s hm; unfold m51_disk_perform_B0 at hm
    subst hEbs; rw [hfr25.eq]; clear hfr25
    replace f_l := f_l.step hst24
    replace f12 := f12.step hst24
    have ch27 := hst24
    refine Wp_seq ?_
    clear f12
    refine Wp_region ?_  -- 3 disk.go:76
    refine Rg_op rfl (op_lss rfl rfl ?_)
    refine Rg_nil ?_
    refine Wp_seq ?_
    refine Wp_cond rfl (fun hc28 => ?_) (fun hc28 => ?_)
    ·
      replace hm := bif_t hm hc28
      refine Wp_skip ?_
      refine Wp_seq ?_
      refine Wp_block ?_
      refine Wp_seq ?_
      refine Wp_region ?_  -- 4 disk.go:76
      replace hm := ck_some hm; obtain ⟨hc29, hm⟩ := hm
      refine Rg_op rfl (op_indexAddr (q := rXWrite) ty23 ty73 rfl rfl f_l rfl hc29.1 hc29.2 ?_)
      intro p30 f31
      refine Rg_op rfl (op_loadPA ty73 rfl f31 rfl ?_)
      intro vs32 h33
      obtain ⟨_, _, rfl, ⟨rfl, r_y34_at_⟩, ⟨a_y34_data, c_y34_data, rfl, f_y34_data⟩⟩ := h33
      refine Rg_op rfl (op_alloc ty73 hs23 ?_)
      intro b35 w36 _ p37 hs38
      replace f_l := f_l.step p37
      replace f_g15 := f_g15.step p37
      replace f31 := f31.step p37
      replace f_y34_data := f_y34_data.step p37
      replace ch27 := ch27.trans p37
      clear p37 hs23
      refine Rg_op_ (op_store (cs := [(Value.int .i64 0), (Value.slice none 0 0)]) (vs := [(Value.int .i64 ((l.getD v_1.toNat default).at_)), (Value.slice a_y34_data ((l.getD v_1.toNat default).data).length c_y34_data)]) (cs' := [(Value.int .i64 ((l.getD v_1.toNat default).at_)), (Value.slice a_y34_data ((l.getD v_1.toNat default).data).length c_y34_data)]) (bs' := [(some b35, Obj.cells [(Value.int .i64 ((l.getD v_1.toNat default).at_)), (Value.slice a_y34_data ((l.getD v_1.toNat default).data).length c_y34_data)].toArray 73), (k_g15, o_g15)]) (i := 0) ty73 hs38 rfl rfl rfl rfl rfl (le_lit rfl) rfl rfl rfl ?_)
      intro w40 p41 hs42
      replace f_l := f_l.step p41
      replace f_g15 := f_g15.step p41
      replace f31 := f31.step p41
      replace f_y34_data := f_y34_data.step p41
      replace ch27 := ch27.trans p41
      clear p41 hs38
      refine Rg_nil ?_
      clear f31
      refine Wp_region ?_  -- 5 disk.go:77
      refine Rg_op rfl (op_move (v := (Value.slice a_g15 out_1.length c_g15)) rfl ?_)
      refine Rg_op rfl (op_fieldAddr ty73 rfl ty3 (by decide) rfl (rfl : _ = (⟨_, 0, none⟩ : Addr)) ?_)
      refine Rg_op rfl (op_load (cs := [(Value.int .i64 ((l.getD v_1.toNat default).at_)), (Value.slice a_y34_data ((l.getD v_1.toNat default).data).length c_y34_data)]) (i := 0) ty3 hs42 rfl rfl rfl ?_)
      refine Rg_op rfl (op_fieldAddr ty73 rfl ty41 (by decide) rfl (rfl : _ = (⟨_, 1, none⟩ : Addr)) ?_)
      refine Rg_op rfl (op_load (cs := [(Value.int .i64 ((l.getD v_1.toNat default).at_)), (Value.slice a_y34_data ((l.getD v_1.toNat default).data).length c_y34_data)]) (i := 0) ty41 hs42 rfl rfl rfl ?_)
      replace hm := ck_some hm; obtain ⟨hc43, hm⟩ := hm
      refine Rg_op rfl (op_indexAddrG ty22 ty41 rfl rfl f_g15 hc43 ?_)
      rintro b44 rfl rfl
      refine Rg_op_ (op_storeG (vs := [(Value.slice a_y34_data ((l.getD v_1.toNat default).data).length c_y34_data)]) (i := 1) ty41 rfl hs42 rfl rfl rfl rfl f_g15 hc43 (mk_sl f_y34_data) ?_)
      intro w45 o48 p46 hs47 f49
      replace f_l := f_l.step p46
      replace f_y34_data := f_y34_data.step p46
      replace ch27 := ch27.trans p46
      clear p46 hs42
      refine Rg_nil ?_
      refine Wp_region ?_  -- 6 disk.go:76
      refine Rg_op rfl (op_addw rfl rfl ?_)
      refine Rg_op rfl (op_move (v := (Value.int .i64 (IntKind.wrap .i64 (v_1 + 1)))) rfl ?_)
      refine Rg_nil ?_
      have hs50 := hs47.drop 0
      replace f_l := f_l.step (Step.drop _ _ [(some b35, Obj.cells [(Value.int .i64 ((l.getD v_1.toNat default).at_)), (Value.slice a_y34_data ((l.getD v_1.toNat default).data).length c_y34_data)].toArray 73), (some b44, o48)] 0)
      replace f_y34_data := f_y34_data.step (Step.drop _ _ [(some b35, Obj.cells [(Value.int .i64 ((l.getD v_1.toNat default).at_)), (Value.slice a_y34_data ((l.getD v_1.toNat default).data).length c_y34_data)].toArray 73), (some b44, o48)] 0)
      replace f49 := f49.step (Step.drop _ _ [(some b35, Obj.cells [(Value.int .i64 ((l.getD v_1.toNat default).at_)), (Value.slice a_y34_data ((l.getD v_1.toNat default).data).length c_y34_data)].toArray 73), (some b44, o48)] 0)
      replace ch27 := ch27.trans (Step.drop _ _ [(some b35, Obj.cells [(Value.int .i64 ((l.getD v_1.toNat default).at_)), (Value.slice a_y34_data ((l.getD v_1.toNat default).data).length c_y34_data)].toArray 73), (some b44, o48)] 0)
      clear hs47
      exact hK20 _ _ ⟨(out_1.set ((l.getD v_1.toNat default).at_).toNat ((l.getD v_1.toNat default).data)), (IntKind.wrap .i64 (v_1 + 1)), (some ⟨b44, 0, none⟩), c_g15, (some b44), o48, _, rfl, ⟨(by repeat (first | with_reducible exact Out.refl _ _ | refine Out.upd ?_ rfl | refine Out.updL ?_ rfl | refine Out.mix' ?_ rfl | exact Out.refl _ _)), rfl, (eqlenV (show out_1.length = (out_1.set ((l.getD v_1.toNat default).at_).toNat ((l.getD v_1.toNat default).data)).length from by first | (simp; done) | (simp; omega))), rfl, trivial⟩, ch27, hs50, f49, (inK_wrap .i64 _), jnE2 hsf19 hm⟩
    ·
      replace hm := bif_f hm hc28
      refine Wp_exit ?_
      refine Wp_seq ?_
      clear f_l
      refine Wp_region ?_  -- 7 disk.go:79
      refine Rg_op rfl (op_move (v := (Value.slice a_g15 out_1.length c_g15)) rfl ?_)
      refine Rg_op rfl (op_assign (v := (Value.slice a_g15 out_1.length c_g15)) rfl ?_)
      refine Rg_nil ?_
      refine Wp_ret ?_
      refine ⟨_, (show Closes [] _ _ from rfl), [(Value.slice a_g15 out_1.length c_g15)], ⟨rfl, trivial⟩, hs23.ext, ?_⟩
      exact OkG.mk (i := 0) hs23 rfl f_g15 (Option.some.inj hm)
theorem c51_disk_perform {w : World} {O : List Nat} {sectors : List (List UInt8)} {l : List XWrite} {a_sectors : Option Addr} {c_sectors : Nat} {a_l : Option Addr} {c_l : Nat} (hO : ∀ k ∈ O, k < w.heap.size) (f_sectors : SlR (rSl rU8) w O a_sectors c_sectors sectors) (f_l : SlR rXWrite w O a_l c_l l) {x : (List (List UInt8))} (hm : m51_disk_perform sectors l = some x) :
    Ok Try.prog 51 [(Value.slice a_sectors sectors.length c_sectors), (Value.slice a_l l.length c_l)] w O (vC (rSl (rSl rU8))) x :=
  (g51_disk_perform hO f_sectors f_l hm).ok hO

end Go.Fx


set_option linter.unusedVariables false
set_option linter.unusedSimpArgs false
set_option maxRecDepth 100000
set_option maxHeartbeats 0
namespace Go.Fx
open Go Go.RowKit Go.Proofs
def m52_slices_Clonebyte_byte_ (s : List UInt8) : Option (List UInt8) :=
  ck ((([] : List UInt8).length + s.length) * 1 ≤ 140737488355328) <|
  some (([] : List UInt8) ++ s)

theorem g52_slices_Clonebyte_byte_ {w : World} {O : List Nat} {s : List UInt8} {a_s : Option Addr} {c_s : Nat} (hO : ∀ k ∈ O, k < w.heap.size) (f_s : SlR rU8 w O a_s c_s s) {x : (List UInt8)} (hm : m52_slices_Clonebyte_byte_ s = some x) :
    OkG Try.prog 52 [(Value.slice a_s s.length c_s)] w O rU8 5 x := by
  unfold m52_slices_Clonebyte_byte_ at hm
  refine Fn_of_Wp (n := 8) (xs := [.tmp 2]) Try.func52 rfl Try.ntmps52 Try.results52 rfl ?_
  have hs := St.start hO
  refine Wp_seq ?_
  refine Wp_region ?_  -- 0 slices.go:355
  refine Rg_op rfl (op_assign (v := (Value.slice none 0 0)) rfl ?_)
  refine Rg_nil ?_
  refine Wp_seq ?_
  refine Wp_seq ?_
  refine Wp_region ?_  -- 1 slices.go:357
  refine Rg_op rfl (op_move (v := (Value.slice a_s s.length c_s)) rfl ?_)
  refine Rg_op rfl (op_eqnil Try.underlying41 rfl rfl ?_)
  refine Rg_nil ?_
  rcases a_s with _ | ad1
  ·
    have hnil2 := (f_s.nil rfl).1
    refine Wp_cond_t rfl ?_
    refine Wp_seq ?_
    clear f_s
    refine Wp_region ?_  -- 2 slices.go:358
    refine Rg_op rfl (op_assign (v := (Value.slice none 0 0)) rfl ?_)
    refine Rg_nil ?_
    refine Wp_ret ?_
    refine ⟨_, (show Closes [] _ _ from rfl), [(Value.slice none 0 0)], ⟨rfl, trivial⟩, hs.ext, ?_⟩
    exact OkG.mkNil (by simp [ck, hnil2] at hm; first | exact hm | (subst hm; simp [hnil2]) | simpa using hm)
  ·
    refine Wp_cond_f rfl ?_
    refine Wp_skip ?_
    refine Wp_seq ?_
    refine Wp_region ?_  -- 3 slices.go:362
    refine Rg_op rfl (op_buildSlice (cs := []) (parts := []) ty41 ty5 hs (by decide) rfl ?_)
    intro b3 w4 hx7 p5 hs6
    replace f_s := f_s.step p5
    clear p5
    refine Rg_op rfl (op_move (v := (Value.slice (some ad1) s.length c_s)) rfl ?_)
    have f9 := Gs.of_cells (p := rU8) (e := 5) (bl := b3) (c := 0) (w := w4) (O := ks [(some b3, Obj.cells [].toArray 5)] O) (show Els rU8 _ _ [] [] from Els.nil) rfl (le_lit rfl)
    replace hm := ck_some hm; obtain ⟨hc10, hm⟩ := hm
    obtain ⟨ns11, he12, hr13⟩ := f_s.src
    refine Rg_op rfl (op_append (q := rU8) (i := 0) (xs := ([] : List UInt8)) (ys := s) (news := ns11) ty41 ty5 rfl (by decide) hs6 rfl rfl f9 rfl hr13 he12 hc10 (by have := hc10; simp only [maxLen]; omega) ?_)
    intro a17 c18 k19 o20 w14 p15 hs16 f21
    replace f_s := f_s.step p15
    clear p15 hs6
    refine Rg_op rfl (op_assign (v := (Value.slice a17 (([] : List UInt8) ++ s).length c18)) rfl ?_)
    refine Rg_nil ?_
    refine Wp_ret ?_
    refine ⟨_, (show Closes [] _ _ from rfl), [(Value.slice a17 (([] : List UInt8) ++ s).length c18)], ⟨rfl, trivial⟩, hs16.ext, ?_⟩
    exact OkG.mk (i := 0) hs16 rfl f21 (Option.some.inj hm)
theorem c52_slices_Clonebyte_byte_ {w : World} {O : List Nat} {s : List UInt8} {a_s : Option Addr} {c_s : Nat} (hO : ∀ k ∈ O, k < w.heap.size) (f_s : SlR rU8 w O a_s c_s s) {x : (List UInt8)} (hm : m52_slices_Clonebyte_byte_ s = some x) :
    Ok Try.prog 52 [(Value.slice a_s s.length c_s)] w O (vC (rSl rU8)) x :=
  (g52_slices_Clonebyte_byte_ hO f_s hm).ok hO

end Go.Fx


set_option linter.unusedVariables false
set_option linter.unusedSimpArgs false
set_option maxRecDepth 100000
set_option maxHeartbeats 0
namespace Go.Fx
open Go Go.RowKit Go.Proofs
def m25_disk_Sync (d : XDisk) : Option (XDisk × Int) :=
  (m47_disk_runs d).bind fun runs_1 =>
  bif (!runs_1) then
    some ((⟨([] : List (List UInt8)), ([] : List XWrite), 0, false⟩ : XDisk), 440)
  else
    jn (fun (v_1 : Bool) =>
      bif v_1 then
        ck ((0 : Int) ≤ d.left ∧ d.left ≤ (d.pending.length : Int)) <|
        (m51_disk_perform d.sectors ((d.pending.drop 0).take (d.left.toNat - 0))).bind fun perform_1 =>
        ck ((0 : Int) ≤ d.left ∧ d.left < (d.pending.length : Int)) <|
        ck ((0 : Int) ≤ ((d.pending.getD d.left.toNat default).at_) ∧ ((d.pending.getD d.left.toNat default).at_) < (perform_1.length : Int)) <|
        (m52_slices_Clonebyte_byte_ (perform_1.getD ((d.pending.getD d.left.toNat default).at_).toNat default)).bind fun clone_1 =>
        ck ((0 : Int) ≤ (0 : Int) ∧ (0 : Int) < (64 : Int) ∧ (64 : Int) ≤ (clone_1.length : Int)) <|
        ck (0 < 64) <|
        ck ((0 : Int) ≤ ((d.pending.getD d.left.toNat default).at_) ∧ ((d.pending.getD d.left.toNat default).at_) < (perform_1.length : Int)) <|
        some ((⟨(perform_1.set ((d.pending.getD d.left.toNat default).at_).toNat (clone_1.take 0 ++ (((d.pending.getD d.left.toNat default).data).take (64 - 0) ++ (clone_1.drop 0).drop (min ((d.pending.getD d.left.toNat default).data).length (64 - 0))))), ([] : List XWrite), 0, true⟩ : XDisk), 440)
      else
        (m51_disk_perform d.sectors d.pending).bind fun perform_2 =>
        bif (decide (0 ≤ d.left)) then
          some ((⟨perform_2, ([] : List XWrite), (IntKind.wrap .i64 (d.left - (d.pending.length : Int))), false⟩ : XDisk), 0)
        else
          some ((⟨perform_2, ([] : List XWrite), d.left, false⟩ : XDisk), 0))
    (fun k27 =>
      bif (decide (0 ≤ d.left)) then
        k27 (decide (d.left < (d.pending.length : Int)))
      else
        k27 false)

theorem c25_disk_Sync {w : World} {O : List Nat} {d : XDisk} {a_d_sectors : Option Addr} {c_d_sectors : Nat} {a_d_pending : Option Addr} {c_d_pending : Nat} (hO : ∀ k ∈ O, k < w.heap.size) (f_d_sectors : SlR (rSl rU8) w O a_d_sectors c_d_sectors d.sectors) (f_d_pending : SlR rXWrite w O a_d_pending c_d_pending d.pending) (r_d_left : InK .i64 d.left) {x : XDisk × Int} (hm : m25_disk_Sync d = some x) :
    Ok Try.prog 25 [(Value.agg [(Value.slice a_d_sectors d.sectors.length c_d_sectors), (Value.slice a_d_pending d.pending.length c_d_pending), (Value.int .i64 d.left), (Value.bool d.stopped)].toArray)] w O (vT2 (vA rXDisk) (vI .i64)) x := by
  unfold m25_disk_Sync at hm
  refine Fn_of_Wp (n := 78) (xs := [.cell 2 25, .tmp 3]) Try.func25 rfl Try.ntmps25 Try.results25 rfl ?_
  have hs := St.start hO
  refine Wp_seq ?_
  refine Wp_region ?_  -- 0 disk.go:83
  refine Rg_op rfl (op_box (cs := [(Value.slice a_d_sectors d.sectors.length c_d_sectors), (Value.slice a_d_pending d.pending.length c_d_pending), (Value.int .i64 d.left), (Value.bool d.stopped)]) hs rfl rfl ?_)
  intro b1 w2 _ p3 hs4
  replace f_d_sectors := f_d_sectors.step p3
  replace f_d_pending := f_d_pending.step p3
  clear p3
  refine Rg_op rfl (op_alloc ty25 hs4 ?_)
  intro b6 w7 _ p8 hs9
  replace f_d_sectors := f_d_sectors.step p8
  replace f_d_pending := f_d_pending.step p8
  clear p8 hs4
  refine Rg_op rfl (op_assign (v := (Value.int .i64 0)) rfl ?_)
  refine Rg_nil ?_
  refine Wp_seq ?_
  refine Wp_seq ?_
  refine Wp_region ?_  -- 1 disk.go:84
  refine Rg_op rfl (op_loadA (cs := [(Value.slice a_d_sectors d.sectors.length c_d_sectors), (Value.slice a_d_pending d.pending.length c_d_pending), (Value.int .i64 d.left), (Value.bool d.stopped)]) (vs := [(Value.slice a_d_sectors d.sectors.length c_d_sectors), (Value.slice a_d_pending d.pending.length c_d_pending), (Value.int .i64 d.left), (Value.bool d.stopped)]) (i := 1) ty25 hs9 rfl rfl rfl rfl ?_)
  replace hm := bd hm; obtain ⟨runs_1, hv11, hm⟩ := hm
  refine Rg_op rfl (op_call Try.call47 (c47_disk_runs (d := d) hs9.ltw f_d_sectors f_d_pending r_d_left hv11) rfl ?_)
  rintro v12 w13 ⟨hx14, h15⟩
  have hs16 := hs9.call hx14
  have p17 := Step.ext (O := ks [(some b6, Obj.cells [(Value.slice none 0 0), (Value.slice none 0 0), (Value.int .i64 0), (Value.bool false)].toArray 25), (some b1, Obj.cells [(Value.slice a_d_sectors d.sectors.length c_d_sectors), (Value.slice a_d_pending d.pending.length c_d_pending), (Value.int .i64 d.left), (Value.bool d.stopped)].toArray 25)] O) hx14
  clear hx14
  replace f_d_sectors := f_d_sectors.step p17
  replace f_d_pending := f_d_pending.step p17
  clear p17 hs9
  obtain rfl := h15
  refine Rg_op rfl (op_not rfl ?_)
  refine Rg_nil ?_
  refine Wp_cond rfl (fun hc19 => ?_) (fun hc19 => ?_)
  ·
    replace hm := bif_t hm hc19
    refine Wp_seq ?_
    obtain ⟨hs20, p21⟩ := hs16.sub (bs' := [(some b6, Obj.cells [(Value.slice none 0 0), (Value.slice none 0 0), (Value.int .i64 0), (Value.bool false)].toArray 25)]) (.cons_cons _ (.cons _ List.Sublist.slnil))
    clear f_d_sectors f_d_pending
    clear p21 hs16
    refine Wp_region ?_  -- 2 disk.go:85
    refine Rg_op rfl (op_loadA (cs := [(Value.slice none 0 0), (Value.slice none 0 0), (Value.int .i64 0), (Value.bool false)]) (vs := [(Value.slice none 0 0), (Value.slice none 0 0), (Value.int .i64 0), (Value.bool false)]) (i := 0) ty25 hs20 rfl rfl rfl rfl ?_)
    refine Rg_op_ (op_store (cs := [(Value.slice none 0 0), (Value.slice none 0 0), (Value.int .i64 0), (Value.bool false)]) (vs := [(Value.slice none 0 0), (Value.slice none 0 0), (Value.int .i64 0), (Value.bool false)]) (cs' := [(Value.slice none 0 0), (Value.slice none 0 0), (Value.int .i64 0), (Value.bool false)]) (bs' := [(some b6, Obj.cells [(Value.slice none 0 0), (Value.slice none 0 0), (Value.int .i64 0), (Value.bool false)].toArray 25)]) (i := 0) ty25 hs20 rfl rfl rfl rfl rfl (le_lit rfl) rfl rfl rfl ?_)
    intro w22 p23 hs24
    clear p23 hs20
    refine Rg_op rfl (op_assign (v := (Value.int .i64 440)) rfl ?_)
    refine Rg_nil ?_
    refine Wp_ret ?_
    have hz := step_all hs24
    refine ⟨_, (show Closes [] _ _ from rfl), [(Value.agg [(Value.slice none 0 0), (Value.slice none 0 0), (Value.int .i64 0), (Value.bool false)].toArray), (Value.int .i64 440)], ⟨resA (cs := [(Value.slice none 0 0), (Value.slice none 0 0), (Value.int .i64 0), (Value.bool false)]) (vs := [(Value.slice none 0 0), (Value.slice none 0 0), (Value.int .i64 0), (Value.bool false)]) ty25 (i := 0) hs24 rfl rfl rfl rfl, rfl, trivial⟩, hs24.ext, ?_⟩
    exact Vr.eq (a := (vT2 (vA rXDisk) (vI .i64))) (x := ((⟨([] : List (List UInt8)), ([] : List XWrite), 0, false⟩ : XDisk), 440)) (mkT2 (mkA (mkVia (mk_pair (mk_sl SlR.nil_) (mk_pair (mk_sl SlR.nil_) (mk_pair (mk_int (show InK .i64 0 from by decide)) mkBool))))) ⟨rfl, (show InK .i64 440 from by decide)⟩) (Option.some.inj hm)
  ·
    replace hm := bif_f hm hc19
    refine Wp_skip ?_
    refine Wp_seq ?_
    refine Wp_region ?_  -- 3 disk.go:87
    refine Rg_op rfl (op_fieldAddr ty25 rfl ty23 (by decide) rfl (rfl : _ = (⟨_, 1, none⟩ : Addr)) ?_)
    refine Rg_op rfl (op_load (cs := [(Value.slice a_d_sectors d.sectors.length c_d_sectors), (Value.slice a_d_pending d.pending.length c_d_pending), (Value.int .i64 d.left), (Value.bool d.stopped)]) (i := 1) ty23 hs16 rfl rfl rfl ?_)
    refine Rg_op rfl (op_len Try.underlying23 rfl ?_)
    refine Rg_op rfl (op_assign (v := (Value.int .i64 (d.pending.length : Int))) rfl ?_)
    refine Rg_nil ?_
    refine Wp_seq ?_
    refine Wp_reset [] [(1, (Value.pointer (some ⟨b1, 0, none⟩))), (2, (Value.pointer (some ⟨b6, 0, none⟩))), (4, (Value.int .i64 (d.pending.length : Int)))] rfl ⟨rfl, rfl, rfl, trivial⟩ fun ξ25 => ?_
    replace hm := jn_elim hm; obtain ⟨k27, hk28, hm⟩ := hm
    refine Wp_seqJ [15, 16, 17, 18, 19, 20, 21, 22, 23] (fun fr w' => ∃ (v_1 : Bool) (Ebs : Ents), Ebs = [(some b6, Obj.cells [(Value.slice none 0 0), (Value.slice none 0 0), (Value.int .i64 0), (Value.bool false)].toArray 25), (some b1, Obj.cells [(Value.slice a_d_sectors d.sectors.length c_d_sectors), (Value.slice a_d_pending d.pending.length c_d_pending), (Value.int .i64 d.left), (Value.bool d.stopped)].toArray 25)] ∧ fr [] [(23, (Value.bool v_1))] ∧ Step (ks [(some b6, Obj.cells [(Value.slice none 0 0), (Value.slice none 0 0), (Value.int .i64 0), (Value.bool false)].toArray 25), (some b1, Obj.cells [(Value.slice a_d_sectors d.sectors.length c_d_sectors), (Value.slice a_d_pending d.pending.length c_d_pending), (Value.int .i64 d.left), (Value.bool d.stopped)].toArray 25)] O) w13 (ks Ebs O) w' ∧ St ⟨w, [], []⟩ O w' Ebs ∧ k27 v_1 = some x) ?_ ?_
    ·
      rintro ρ34 w30 ⟨v_1, Ebs, hEbs, hfr33, hst32, hs31, hm⟩
      replace hm := jnE1 hk28 hm
      subst hEbs; rw [hfr33.eq]; clear hfr33
      replace f_d_sectors := f_d_sectors.step hst32
      replace f_d_pending := f_d_pending.step hst32
      clear hst32 hs16
      refine Wp_cond rfl (fun hc35 => ?_) (fun hc35 => ?_)
      ·
        replace hm := bif_t hm hc35
        refine Wp_seq ?_
        refine Wp_region ?_  -- 5 disk.go:89
        refine Rg_op rfl (op_fieldAddr ty25 rfl ty23 (by decide) rfl (rfl : _ = (⟨_, 1, none⟩ : Addr)) ?_)
        refine Rg_op rfl (op_load (cs := [(Value.slice a_d_sectors d.sectors.length c_d_sectors), (Value.slice a_d_pending d.pending.length c_d_pending), (Value.int .i64 d.left), (Value.bool d.stopped)]) (i := 1) ty23 hs31 rfl rfl rfl ?_)
        refine Rg_op rfl (op_fieldAddr ty25 rfl ty3 (by decide) rfl (rfl : _ = (⟨_, 2, none⟩ : Addr)) ?_)
        refine Rg_op rfl (op_load (cs := [(Value.slice a_d_sectors d.sectors.length c_d_sectors), (Value.slice a_d_pending d.pending.length c_d_pending), (Value.int .i64 d.left), (Value.bool d.stopped)]) (i := 1) ty3 hs31 rfl rfl rfl ?_)
        refine Rg_op rfl (op_fieldAddr ty25 rfl ty3 (by decide) rfl (rfl : _ = (⟨_, 2, none⟩ : Addr)) ?_)
        refine Rg_op rfl (op_load (cs := [(Value.slice a_d_sectors d.sectors.length c_d_sectors), (Value.slice a_d_pending d.pending.length c_d_pending), (Value.int .i64 d.left), (Value.bool d.stopped)]) (i := 1) ty3 hs31 rfl rfl rfl ?_)
        replace hm := ck_some hm; obtain ⟨hc36, hm⟩ := hm
        refine Rg_op rfl (op_slice (q := rXWrite) (l := 0) (h := d.left.toNat) (m := d.left.toNat) ty23 ty73 rfl f_d_pending rfl rfl (bndI rfl (by omega)) (bndI rfl (by omega)) (by decide) (by omega) (by omega) (by have := f_d_pending.le; omega) (by have := f_d_pending.le; omega) ?_)
        intro a37 f38
        refine Rg_op rfl (op_assign (v := (Value.slice a37 ((d.pending.drop 0).take (d.left.toNat - 0)).length (d.left.toNat - 0))) rfl ?_)
        refine Rg_nil ?_
        refine Wp_seq ?_
        refine Wp_region ?_  -- 6 disk.go:90
        refine Rg_op rfl (op_fieldAddr ty25 rfl ty22 (by decide) rfl (rfl : _ = (⟨_, 0, none⟩ : Addr)) ?_)
        refine Rg_op rfl (op_load (cs := [(Value.slice a_d_sectors d.sectors.length c_d_sectors), (Value.slice a_d_pending d.pending.length c_d_pending), (Value.int .i64 d.left), (Value.bool d.stopped)]) (i := 1) ty22 hs31 rfl rfl rfl ?_)
        refine Rg_op rfl (op_move (v := (Value.slice a37 ((d.pending.drop 0).take (d.left.toNat - 0)).length (d.left.toNat - 0))) rfl ?_)
        replace hm := bd hm; obtain ⟨perform_1, hv39, hm⟩ := hm
        refine Rg_op rfl (op_call Try.call51 (g51_disk_perform (sectors := d.sectors) (l := ((d.pending.drop 0).take (d.left.toNat - 0))) hs31.ltw f_d_sectors f38 hv39) rfl ?_)
        rintro _ w41 ⟨hx42, a45, c46, k47, o48, rfl, hk49, f50⟩
        obtain ⟨hs44, p51⟩ := hs31.callG (o := o48) hx42 hk49
        rw [← ks_cons (o := o48)] at f50
        replace f_d_sectors := f_d_sectors.step p51
        replace f_d_pending := f_d_pending.step p51
        replace f38 := f38.step p51
        clear p51 hs31
        refine Rg_op rfl (op_build (vs := [(Value.slice a45 perform_1.length c46), (Value.slice none 0 0), (Value.int .i64 0), (Value.bool true)]) (parts := [(0, .tmp 34), (3, .const (.bool true))]) ty25 pl25 rfl ?_)
        refine Rg_op_ (op_store (cs := [(Value.slice none 0 0), (Value.slice none 0 0), (Value.int .i64 0), (Value.bool false)]) (vs := [(Value.slice a45 perform_1.length c46), (Value.slice none 0 0), (Value.int .i64 0), (Value.bool true)]) (cs' := [(Value.slice a45 perform_1.length c46), (Value.slice none 0 0), (Value.int .i64 0), (Value.bool true)]) (bs' := [(k47, o48), (some b6, Obj.cells [(Value.slice a45 perform_1.length c46), (Value.slice none 0 0), (Value.int .i64 0), (Value.bool true)].toArray 25), (some b1, Obj.cells [(Value.slice a_d_sectors d.sectors.length c_d_sectors), (Value.slice a_d_pending d.pending.length c_d_pending), (Value.int .i64 d.left), (Value.bool d.stopped)].toArray 25)]) (i := 1) ty25 hs44 rfl rfl rfl rfl rfl (le_lit rfl) rfl rfl rfl ?_)
        intro w53 p54 hs55
        replace f_d_sectors := f_d_sectors.step p54
        replace f_d_pending := f_d_pending.step p54
        replace f38 := f38.step p54
        replace f50 := f50.step p54
        clear p54 hs44
        refine Rg_nil ?_
        refine Wp_seq ?_
        clear f38
        refine Wp_region ?_  -- 7 disk.go:91
        refine Rg_op rfl (op_fieldAddr ty25 rfl ty23 (by decide) rfl (rfl : _ = (⟨_, 1, none⟩ : Addr)) ?_)
        refine Rg_op rfl (op_load (cs := [(Value.slice a_d_sectors d.sectors.length c_d_sectors), (Value.slice a_d_pending d.pending.length c_d_pending), (Value.int .i64 d.left), (Value.bool d.stopped)]) (i := 2) ty23 hs55 rfl rfl rfl ?_)
        refine Rg_op rfl (op_fieldAddr ty25 rfl ty3 (by decide) rfl (rfl : _ = (⟨_, 2, none⟩ : Addr)) ?_)
        refine Rg_op rfl (op_load (cs := [(Value.slice a_d_sectors d.sectors.length c_d_sectors), (Value.slice a_d_pending d.pending.length c_d_pending), (Value.int .i64 d.left), (Value.bool d.stopped)]) (i := 2) ty3 hs55 rfl rfl rfl ?_)
        replace hm := ck_some hm; obtain ⟨hc56, hm⟩ := hm
        refine Rg_op rfl (op_indexAddr (q := rXWrite) ty23 ty73 rfl rfl f_d_pending rfl hc56.1 hc56.2 ?_)
        intro p57 f58
        refine Rg_op rfl (op_loadPA ty73 rfl f58 rfl ?_)
        intro vs59 h60
        obtain ⟨_, _, rfl, ⟨rfl, r_y61_at_⟩, ⟨a_y61_data, c_y61_data, rfl, f_y61_data⟩⟩ := h60
        refine Rg_op rfl (op_alloc ty73 hs55 ?_)
        intro b62 w63 _ p64 hs65
        replace f_d_sectors := f_d_sectors.step p64
        replace f_d_pending := f_d_pending.step p64
        replace f50 := f50.step p64
        replace f58 := f58.step p64
        replace f_y61_data := f_y61_data.step p64
        clear p64 hs55
        refine Rg_op_ (op_store (cs := [(Value.int .i64 0), (Value.slice none 0 0)]) (vs := [(Value.int .i64 ((d.pending.getD d.left.toNat default).at_)), (Value.slice a_y61_data ((d.pending.getD d.left.toNat default).data).length c_y61_data)]) (cs' := [(Value.int .i64 ((d.pending.getD d.left.toNat default).at_)), (Value.slice a_y61_data ((d.pending.getD d.left.toNat default).data).length c_y61_data)]) (bs' := [(some b62, Obj.cells [(Value.int .i64 ((d.pending.getD d.left.toNat default).at_)), (Value.slice a_y61_data ((d.pending.getD d.left.toNat default).data).length c_y61_data)].toArray 73), (k47, o48), (some b6, Obj.cells [(Value.slice a45 perform_1.length c46), (Value.slice none 0 0), (Value.int .i64 0), (Value.bool true)].toArray 25), (some b1, Obj.cells [(Value.slice a_d_sectors d.sectors.length c_d_sectors), (Value.slice a_d_pending d.pending.length c_d_pending), (Value.int .i64 d.left), (Value.bool d.stopped)].toArray 25)]) (i := 0) ty73 hs65 rfl rfl rfl rfl rfl (le_lit rfl) rfl rfl rfl ?_)
        intro w67 p68 hs69
        replace f_d_sectors := f_d_sectors.step p68
        replace f_d_pending := f_d_pending.step p68
        replace f50 := f50.step p68
        replace f58 := f58.step p68
        replace f_y61_data := f_y61_data.step p68
        clear p68 hs65
        refine Rg_nil ?_
        refine Wp_seq ?_
        obtain ⟨hs70, p71⟩ := hs69.sub (bs' := [(some b62, Obj.cells [(Value.int .i64 ((d.pending.getD d.left.toNat default).at_)), (Value.slice a_y61_data ((d.pending.getD d.left.toNat default).data).length c_y61_data)].toArray 73), (k47, o48), (some b6, Obj.cells [(Value.slice a45 perform_1.length c46), (Value.slice none 0 0), (Value.int .i64 0), (Value.bool true)].toArray 25)]) (.cons_cons _ (.cons_cons _ (.cons_cons _ (.cons _ List.Sublist.slnil))))
        clear f_d_sectors f_d_pending f58
        replace f50 := f50.step p71
        replace f_y61_data := f_y61_data.step p71
        clear p71 hs69
        refine Wp_region ?_  -- 8 disk.go:92
        refine Rg_op rfl (op_fieldAddr ty25 rfl ty22 (by decide) rfl (rfl : _ = (⟨_, 0, none⟩ : Addr)) ?_)
        refine Rg_op rfl (op_load (cs := [(Value.slice a45 perform_1.length c46), (Value.slice none 0 0), (Value.int .i64 0), (Value.bool true)]) (i := 2) ty22 hs70 rfl rfl rfl ?_)
        refine Rg_op rfl (op_fieldAddr ty73 rfl ty3 (by decide) rfl (rfl : _ = (⟨_, 0, none⟩ : Addr)) ?_)
        refine Rg_op rfl (op_load (cs := [(Value.int .i64 ((d.pending.getD d.left.toNat default).at_)), (Value.slice a_y61_data ((d.pending.getD d.left.toNat default).data).length c_y61_data)]) (i := 0) ty3 hs70 rfl rfl rfl ?_)
        replace hm := ck_some hm; obtain ⟨hc72, hm⟩ := hm
        refine Rg_op rfl (op_indexAddrG ty22 ty41 rfl rfl f50 hc72 ?_)
        rintro b73 rfl rfl
        refine Rg_op rfl (op_loadG (i := 1) ty41 rfl hs70 rfl rfl f50 hc72 ?_)
        intro v74 h75
        obtain ⟨a_y76, c_y76, rfl, f_y76⟩ := un_sl h75
        replace hm := bd hm; obtain ⟨clone_1, hv77, hm⟩ := hm
        refine Rg_op rfl (op_call Try.call52 (g52_slices_Clonebyte_byte_ (s := (perform_1.getD ((d.pending.getD d.left.toNat default).at_).toNat default)) hs70.ltw f_y76 hv77) rfl ?_)
        rintro _ w79 ⟨hx80, a83, c84, k85, o86, rfl, hk87, f88⟩
        obtain ⟨hs82, p89⟩ := hs70.callG (o := o86) hx80 hk87
        rw [← ks_cons (o := o86)] at f88
        replace f50 := f50.step p89
        replace f_y61_data := f_y61_data.step p89
        replace f_y76 := f_y76.step p89
        clear p89 hs70
        refine Rg_op rfl (op_assign (v := (Value.slice a83 clone_1.length c84)) rfl ?_)
        refine Rg_nil ?_
        refine Wp_seq ?_
        clear f_y76
        refine Wp_reset [] [(2, (Value.pointer (some ⟨b6, 0, none⟩))), (6, (Value.pointer (some ⟨b62, 0, none⟩))), (7, (Value.slice a83 clone_1.length c84))] rfl ⟨rfl, rfl, rfl, trivial⟩ fun ξ91 => ?_
        refine Wp_drawR (g0 := []) (m := 4) (fl := []) (TS_inv hs82) (.inl rfl) rfl (by decide +kernel) ?_  -- 9
        refine Dw_eq (Value.slice a83 clone_1.length c84) (fun ρ92 w93 g hle hi ht => ?_) ?_
        ·
          obtain ⟨-, hst, -⟩ := hle
          refine StepOp_plain (op_move (v := (Value.slice a83 clone_1.length c84)) (ht 7 rfl) ?_)
          exact Goes.same hi rfl
        replace hm := ck_some hm; obtain ⟨hc98, hm⟩ := hm
        obtain ⟨b99, rfl, rfl⟩ := f88.at_ (by omega)
        refine Dw_eq (Value.slice (some ⟨b99, if c84 = 0 then 0 else 0 + 0 * 1, none⟩) (64 - 0) (c84 - 0)) (fun ρ95 w96 g hle hi ht => ?_) ?_
        ·
          obtain ⟨-, hst, -⟩ := hle
          replace f88 := f88.step hst
          refine StepOp_plain (op_sliceO (l := 0) (h := 64) (m := c84) ty41 ty5 (ht 49 rfl) rfl (bndI rfl (by omega)) rfl (by decide) (by omega) (by have := f88.le; omega) (Nat.le_refl _) ?_)
          exact Goes.same hi rfl
        refine Dw_eq (Value.pointer (some ⟨b62, 1, none⟩)) (fun ρ100 w101 g hle hi ht => ?_) ?_
        ·
          obtain ⟨-, hst, -⟩ := hle
          refine StepOp_plain (op_fieldAddr ty73 rfl ty41 (by decide) (ht 6 rfl) (rfl : _ = (⟨_, 1, none⟩ : Addr)) ?_)
          exact Goes.same hi rfl
        refine Dw_eq (Value.slice a_y61_data ((d.pending.getD d.left.toNat default).data).length c_y61_data) (fun ρ103 w104 g hle hi ht => ?_) ?_
        ·
          obtain ⟨-, hst, -⟩ := hle
          have hsn := (Step.nx hi).1
          refine StepOp_plain (op_load (cs := [(Value.int .i64 ((d.pending.getD d.left.toNat default).at_)), (Value.slice a_y61_data ((d.pending.getD d.left.toNat default).data).length c_y61_data)]) (i := 1) ty41 hsn (ht 51 rfl) rfl rfl ?_)
          exact Goes.same hi rfl
        refine Dw_nil fun w110 g111 hl112 hi113 => ?_
        obtain ⟨-, hst114, -⟩ := hl112
        obtain ⟨hs116, p115⟩ := Step.nx hi113
        rintro _ rfl
        rintro _ rfl
        rintro _ rfl
        rintro _ rfl
        have p117 : Step (ks [(some b99, o86), (some b62, Obj.cells [(Value.int .i64 ((d.pending.getD d.left.toNat default).at_)), (Value.slice a_y61_data ((d.pending.getD d.left.toNat default).data).length c_y61_data)].toArray 73), (some b73, o48), (some b6, Obj.cells [(Value.slice (some ⟨b73, 0, none⟩) perform_1.length c46), (Value.slice none 0 0), (Value.int .i64 0), (Value.bool true)].toArray 25)] O) w79 (ks [(some b99, o86), (some b62, Obj.cells [(Value.int .i64 ((d.pending.getD d.left.toNat default).at_)), (Value.slice a_y61_data ((d.pending.getD d.left.toNat default).data).length c_y61_data)].toArray 73), (some b73, o48), (some b6, Obj.cells [(Value.slice (some ⟨b73, 0, none⟩) perform_1.length c46), (Value.slice none 0 0), (Value.int .i64 0), (Value.bool true)].toArray 25)] O) w110 := hst114.trans p115
        replace f50 := f50.step p117
        replace f_y61_data := f_y61_data.step p117
        replace f88 := f88.step p117
        clear p117 hs82
        replace hm := ck_some hm; obtain ⟨hc118, hm⟩ := hm
        obtain ⟨ns119, he120, hr121⟩ := f_y61_data.src
        refine Rg_op rfl (op_copyW (p := rU8) (i := 0) (l := 0) (h := 64) ty41 ty5 rfl hs116 rfl rfl f88 rfl he120 hr121 hc118 (by omega) ?_)
        intro o125 w122 p123 hs124 f126
        replace f50 := f50.step p123
        replace f_y61_data := f_y61_data.step p123
        clear p123 hs116
        have r127 : InK .i64 ((min ((d.pending.getD d.left.toNat default).data).length (64 - 0) : Nat) : Int) := inK_of (by have := f126.le; have hm : maxLen = 9223372036854775807 := rfl; simp at this ⊢; omega)
        refine Rg_nil ?_
        refine Wp_seq ?_
        refine Wp_region ?_  -- 10 disk.go:94
        refine Rg_op rfl (op_fieldAddr ty25 rfl ty22 (by decide) rfl (rfl : _ = (⟨_, 0, none⟩ : Addr)) ?_)
        refine Rg_op rfl (op_load (cs := [(Value.slice (some ⟨b73, 0, none⟩) perform_1.length c46), (Value.slice none 0 0), (Value.int .i64 0), (Value.bool true)]) (i := 3) ty22 hs124 rfl rfl rfl ?_)
        refine Rg_op rfl (op_fieldAddr ty73 rfl ty3 (by decide) rfl (rfl : _ = (⟨_, 0, none⟩ : Addr)) ?_)
        refine Rg_op rfl (op_load (cs := [(Value.int .i64 ((d.pending.getD d.left.toNat default).at_)), (Value.slice a_y61_data ((d.pending.getD d.left.toNat default).data).length c_y61_data)]) (i := 1) ty3 hs124 rfl rfl rfl ?_)
        refine Rg_op rfl (op_move (v := (Value.slice (some ⟨b99, 0, none⟩) (clone_1.take 0 ++ (((d.pending.getD d.left.toNat default).data).take (64 - 0) ++ (clone_1.drop 0).drop (min ((d.pending.getD d.left.toNat default).data).length (64 - 0)))).length c84)) (eqlen rfl (show clone_1.length = (clone_1.take 0 ++ (((d.pending.getD d.left.toNat default).data).take (64 - 0) ++ (clone_1.drop 0).drop (min ((d.pending.getD d.left.toNat default).data).length (64 - 0)))).length from by first | (simp; done) | (simp; omega))) ?_)
        replace hm := ck_some hm; obtain ⟨hc128, hm⟩ := hm
        refine Rg_op rfl (op_indexAddrG ty22 ty41 rfl rfl f50 hc128 ?_)
        rintro _ ⟨⟩ -
        obtain ⟨hs131, p132, f130⟩ := Gs.publish (i := 0) hs124 rfl f126
        replace f50 := f50.step p132
        replace f_y61_data := f_y61_data.step p132
        clear p132 hs124
        refine Rg_op_ (op_storeG (vs := [(Value.slice (some ⟨b99, 0, none⟩) (clone_1.take 0 ++ (((d.pending.getD d.left.toNat default).data).take (64 - 0) ++ (clone_1.drop 0).drop (min ((d.pending.getD d.left.toNat default).data).length (64 - 0)))).length c84)]) (i := 1) ty41 rfl hs131 rfl rfl rfl rfl f50 hc128 (mk_sl f130) ?_)
        intro w133 o136 p134 hs135 f137
        replace f_y61_data := f_y61_data.step p134
        replace f130 := f130.step p134
        clear p134 hs131
        refine Rg_nil ?_
        refine Wp_seq ?_
        obtain ⟨hs138, p139⟩ := hs135.sub (bs' := [(some b73, o136), (some b6, Obj.cells [(Value.slice (some ⟨b73, 0, none⟩) perform_1.length c46), (Value.slice none 0 0), (Value.int .i64 0), (Value.bool true)].toArray 25)]) (.cons _ (.cons_cons _ (.cons_cons _ List.Sublist.slnil)))
        clear f_y61_data f130
        replace f137 := f137.step p139
        clear p139 hs135
        refine Wp_region ?_  -- 11 disk.go:95
        refine Rg_op rfl (op_loadA (cs := [(Value.slice (some ⟨b73, 0, none⟩) perform_1.length c46), (Value.slice none 0 0), (Value.int .i64 0), (Value.bool true)]) (vs := [(Value.slice (some ⟨b73, 0, none⟩) perform_1.length c46), (Value.slice none 0 0), (Value.int .i64 0), (Value.bool true)]) (i := 1) ty25 hs138 rfl rfl rfl rfl ?_)
        refine Rg_op_ (op_store (cs := [(Value.slice (some ⟨b73, 0, none⟩) perform_1.length c46), (Value.slice none 0 0), (Value.int .i64 0), (Value.bool true)]) (vs := [(Value.slice (some ⟨b73, 0, none⟩) perform_1.length c46), (Value.slice none 0 0), (Value.int .i64 0), (Value.bool true)]) (cs' := [(Value.slice (some ⟨b73, 0, none⟩) perform_1.length c46), (Value.slice none 0 0), (Value.int .i64 0), (Value.bool true)]) (bs' := [(some b73, o136), (some b6, Obj.cells [(Value.slice (some ⟨b73, 0, none⟩) perform_1.length c46), (Value.slice none 0 0), (Value.int .i64 0), (Value.bool true)].toArray 25)]) (i := 1) ty25 hs138 rfl rfl rfl rfl rfl (le_lit rfl) rfl rfl rfl ?_)
        intro w140 p141 hs142
        replace f137 := f137.step p141
        clear p141 hs138
        refine Rg_op rfl (op_assign (v := (Value.int .i64 440)) rfl ?_)
        refine Rg_nil ?_
        refine Wp_ret ?_
        obtain ⟨hs144, p145, f143⟩ := Gs.publish (i := 0) hs142 rfl f137
        clear p145 hs142
        have hz := step_all hs144
        replace f143 := f143.step hz
        refine ⟨_, (show Closes [] _ _ from rfl), [(Value.agg [(Value.slice (some ⟨b73, 0, none⟩) perform_1.length c46), (Value.slice none 0 0), (Value.int .i64 0), (Value.bool true)].toArray), (Value.int .i64 440)], ⟨resA (cs := [(Value.slice (some ⟨b73, 0, none⟩) perform_1.length c46), (Value.slice none 0 0), (Value.int .i64 0), (Value.bool true)]) (vs := [(Value.slice (some ⟨b73, 0, none⟩) perform_1.length c46), (Value.slice none 0 0), (Value.int .i64 0), (Value.bool true)]) ty25 (i := 0) hs144 rfl rfl rfl rfl, rfl, trivial⟩, hs144.ext, ?_⟩
        exact Vr.eq (a := (vT2 (vA rXDisk) (vI .i64))) (x := ((⟨(perform_1.set ((d.pending.getD d.left.toNat default).at_).toNat (clone_1.take 0 ++ (((d.pending.getD d.left.toNat default).data).take (64 - 0) ++ (clone_1.drop 0).drop (min ((d.pending.getD d.left.toNat default).data).length (64 - 0))))), ([] : List XWrite), 0, true⟩ : XDisk), 440)) (mkT2 (mkA (mkVia (mk_pair (mk_slL (show perform_1.length = (perform_1.set ((d.pending.getD d.left.toNat default).at_).toNat (clone_1.take 0 ++ (((d.pending.getD d.left.toNat default).data).take (64 - 0) ++ (clone_1.drop 0).drop (min ((d.pending.getD d.left.toNat default).data).length (64 - 0))))).length from by first | (simp; done) | (simp; omega)) f143) (mk_pair (mk_sl SlR.nil_) (mk_pair (mk_int (show InK .i64 0 from by decide)) mkBool))))) ⟨rfl, (show InK .i64 440 from by decide)⟩) (Option.some.inj hm)
      ·
        replace hm := bif_f hm hc35
        refine Wp_skip ?_
        refine Wp_seq ?_
        refine Wp_drawR (g0 := []) (m := 7) (fl := []) (TS_inv hs31) (.inl rfl) rfl (by decide +kernel) ?_  -- 12
        refine Dw_eq (Value.pointer (some ⟨b1, 0, none⟩)) (fun ρ146 w147 g hle hi ht => ?_) ?_
        ·
          obtain ⟨-, hst, -⟩ := hle
          refine StepOp_plain (op_fieldAddr ty25 rfl ty22 (by decide) (ht 1 rfl) (rfl : _ = (⟨_, 0, none⟩ : Addr)) ?_)
          exact Goes.same hi rfl
        refine Dw_eq (Value.slice a_d_sectors d.sectors.length c_d_sectors) (fun ρ149 w150 g hle hi ht => ?_) ?_
        ·
          obtain ⟨-, hst, -⟩ := hle
          have hsn := (Step.nx hi).1
          refine StepOp_plain (op_load (cs := [(Value.slice a_d_sectors d.sectors.length c_d_sectors), (Value.slice a_d_pending d.pending.length c_d_pending), (Value.int .i64 d.left), (Value.bool d.stopped)]) (i := 1) ty22 hsn (ht 61 rfl) rfl rfl ?_)
          exact Goes.same hi rfl
        refine Dw_eq (Value.pointer (some ⟨b1, 1, none⟩)) (fun ρ152 w153 g hle hi ht => ?_) ?_
        ·
          obtain ⟨-, hst, -⟩ := hle
          refine StepOp_plain (op_fieldAddr ty25 rfl ty23 (by decide) (ht 1 rfl) (rfl : _ = (⟨_, 1, none⟩ : Addr)) ?_)
          exact Goes.same hi rfl
        refine Dw_eq (Value.slice a_d_pending d.pending.length c_d_pending) (fun ρ155 w156 g hle hi ht => ?_) ?_
        ·
          obtain ⟨-, hst, -⟩ := hle
          have hsn := (Step.nx hi).1
          refine StepOp_plain (op_load (cs := [(Value.slice a_d_sectors d.sectors.length c_d_sectors), (Value.slice a_d_pending d.pending.length c_d_pending), (Value.int .i64 d.left), (Value.bool d.stopped)]) (i := 1) ty23 hsn (ht 63 rfl) rfl rfl ?_)
          exact Goes.same hi rfl
        replace hm := bd hm; obtain ⟨perform_2, hv161, hm⟩ := hm
        refine Dw_op (VD O [(some b6, Obj.cells [(Value.slice none 0 0), (Value.slice none 0 0), (Value.int .i64 0), (Value.bool false)].toArray 25), (some b1, Obj.cells [(Value.slice a_d_sectors d.sectors.length c_d_sectors), (Value.slice a_d_pending d.pending.length c_d_pending), (Value.int .i64 d.left), (Value.bool d.stopped)].toArray 25)] (vC (rSl (rSl rU8))) perform_2) (VD.stab _ _) (fun ρ158 w159 g hle hi ht => ?_) ?_
        ·
          obtain ⟨-, hst, -⟩ := hle
          replace f_d_sectors := f_d_sectors.step hst
          replace f_d_pending := f_d_pending.step hst
          refine StepOp_plain (op_call Try.call51 (c51_disk_perform (O := ks (ents g ++ [(some b6, Obj.cells [(Value.slice none 0 0), (Value.slice none 0 0), (Value.int .i64 0), (Value.bool false)].toArray 25), (some b1, Obj.cells [(Value.slice a_d_sectors d.sectors.length c_d_sectors), (Value.slice a_d_pending d.pending.length c_d_pending), (Value.int .i64 d.left), (Value.bool d.stopped)].toArray 25)]) O) (sectors := d.sectors) (l := d.pending) hi.ltw f_d_sectors f_d_pending hv161) (by simp only [List.map, Array.toList, (show ev _ (.tmp 62) = _ from (ht 62 rfl)), (show ev _ (.tmp 64) = _ from (ht 64 rfl))] <;> rfl) ?_)
          rintro v162 w163 ⟨hx164, h165⟩
          exact Goes.call hi hx164 h165
        refine Dw_eq (Value.pointer (some ⟨b1, 2, none⟩)) (fun ρ167 w168 g hle hi ht => ?_) ?_
        ·
          obtain ⟨-, hst, -⟩ := hle
          refine StepOp_plain (op_fieldAddr ty25 rfl ty3 (by decide) (ht 1 rfl) (rfl : _ = (⟨_, 2, none⟩ : Addr)) ?_)
          exact Goes.same hi rfl
        refine Dw_eq (Value.int .i64 d.left) (fun ρ170 w171 g hle hi ht => ?_) ?_
        ·
          obtain ⟨-, hst, -⟩ := hle
          have hsn := (Step.nx hi).1
          refine StepOp_plain (op_load (cs := [(Value.slice a_d_sectors d.sectors.length c_d_sectors), (Value.slice a_d_pending d.pending.length c_d_pending), (Value.int .i64 d.left), (Value.bool d.stopped)]) (i := 1) ty3 hsn (ht 66 rfl) rfl rfl ?_)
          exact Goes.same hi rfl
        refine Dw_nil fun w177 g178 hl179 hi180 => ?_
        obtain ⟨-, hst181, -⟩ := hl179
        obtain ⟨hs183, p182⟩ := Step.nx hi180
        rintro _ rfl
        rintro _ rfl
        rintro v184 h185
        replace h185 : Vr.vd (vC (rSl (rSl rU8))) _ _ _ _ := h185
        obtain ⟨a_y186, c_y186, rfl, f_y186⟩ := un_sl h185
        rintro _ rfl
        rintro _ rfl
        rintro _ rfl
        rintro _ rfl
        have p187 : Step (ks [(some b6, Obj.cells [(Value.slice none 0 0), (Value.slice none 0 0), (Value.int .i64 0), (Value.bool false)].toArray 25), (some b1, Obj.cells [(Value.slice a_d_sectors d.sectors.length c_d_sectors), (Value.slice a_d_pending d.pending.length c_d_pending), (Value.int .i64 d.left), (Value.bool d.stopped)].toArray 25)] O) w30 (ks [(some b6, Obj.cells [(Value.slice none 0 0), (Value.slice none 0 0), (Value.int .i64 0), (Value.bool false)].toArray 25), (some b1, Obj.cells [(Value.slice a_d_sectors d.sectors.length c_d_sectors), (Value.slice a_d_pending d.pending.length c_d_pending), (Value.int .i64 d.left), (Value.bool d.stopped)].toArray 25)] O) w177 := hst181.trans p182
        replace f_y186 := f_y186.step p182
        replace f_d_sectors := f_d_sectors.step p187
        replace f_d_pending := f_d_pending.step p187
        clear p187 hs31
        refine Rg_op rfl (op_build (vs := [(Value.slice a_y186 perform_2.length c_y186), (Value.slice none 0 0), (Value.int .i64 d.left), (Value.bool false)]) (parts := [(0, .tmp 65), (2, .tmp 67)]) ty25 pl25 rfl ?_)
        refine Rg_op_ (op_store (cs := [(Value.slice none 0 0), (Value.slice none 0 0), (Value.int .i64 0), (Value.bool false)]) (vs := [(Value.slice a_y186 perform_2.length c_y186), (Value.slice none 0 0), (Value.int .i64 d.left), (Value.bool false)]) (cs' := [(Value.slice a_y186 perform_2.length c_y186), (Value.slice none 0 0), (Value.int .i64 d.left), (Value.bool false)]) (bs' := [(some b6, Obj.cells [(Value.slice a_y186 perform_2.length c_y186), (Value.slice none 0 0), (Value.int .i64 d.left), (Value.bool false)].toArray 25), (some b1, Obj.cells [(Value.slice a_d_sectors d.sectors.length c_d_sectors), (Value.slice a_d_pending d.pending.length c_d_pending), (Value.int .i64 d.left), (Value.bool d.stopped)].toArray 25)]) (i := 0) ty25 hs183 rfl rfl rfl rfl rfl (le_lit rfl) rfl rfl rfl ?_)
        intro w188 p189 hs190
        replace f_d_sectors := f_d_sectors.step p189
        replace f_d_pending := f_d_pending.step p189
        replace f_y186 := f_y186.step p189
        clear p189 hs183
        refine Rg_nil ?_
        refine Wp_seq ?_
        refine Wp_seq ?_
        obtain ⟨hs191, p192⟩ := hs190.sub (bs' := [(some b6, Obj.cells [(Value.slice a_y186 perform_2.length c_y186), (Value.slice none 0 0), (Value.int .i64 d.left), (Value.bool false)].toArray 25)]) (.cons_cons _ (.cons _ List.Sublist.slnil))
        clear f_d_sectors f_d_pending
        replace f_y186 := f_y186.step p192
        clear p192 hs190
        refine Wp_region ?_  -- 13 disk.go:98
        refine Rg_op rfl (op_fieldAddr ty25 rfl ty3 (by decide) rfl (rfl : _ = (⟨_, 2, none⟩ : Addr)) ?_)
        refine Rg_op rfl (op_load (cs := [(Value.slice a_y186 perform_2.length c_y186), (Value.slice none 0 0), (Value.int .i64 d.left), (Value.bool false)]) (i := 0) ty3 hs191 rfl rfl rfl ?_)
        refine Rg_op rfl (op_geq rfl rfl ?_)
        refine Rg_nil ?_
        refine Wp_cond rfl (fun hc193 => ?_) (fun hc193 => ?_)
        ·
          replace hm := bif_t hm hc193
          refine Wp_region ?_  -- 14 disk.go:99
          refine Rg_op rfl (op_fieldAddr ty25 rfl ty3 (by decide) rfl (rfl : _ = (⟨_, 2, none⟩ : Addr)) ?_)
          refine Rg_op rfl (op_load (cs := [(Value.slice a_y186 perform_2.length c_y186), (Value.slice none 0 0), (Value.int .i64 d.left), (Value.bool false)]) (i := 0) ty3 hs191 rfl rfl rfl ?_)
          refine Rg_op rfl (op_move (v := (Value.int .i64 (d.pending.length : Int))) rfl ?_)
          refine Rg_op rfl (op_subw rfl rfl ?_)
          refine Rg_op rfl (op_fieldAddr ty25 rfl ty3 (by decide) rfl (rfl : _ = (⟨_, 2, none⟩ : Addr)) ?_)
          refine Rg_op_ (op_store (cs := [(Value.slice a_y186 perform_2.length c_y186), (Value.slice none 0 0), (Value.int .i64 d.left), (Value.bool false)]) (vs := [(Value.int .i64 (IntKind.wrap .i64 (d.left - (d.pending.length : Int))))]) (cs' := [(Value.slice a_y186 perform_2.length c_y186), (Value.slice none 0 0), (Value.int .i64 (IntKind.wrap .i64 (d.left - (d.pending.length : Int)))), (Value.bool false)]) (bs' := [(some b6, Obj.cells [(Value.slice a_y186 perform_2.length c_y186), (Value.slice none 0 0), (Value.int .i64 (IntKind.wrap .i64 (d.left - (d.pending.length : Int)))), (Value.bool false)].toArray 25)]) (i := 0) ty3 hs191 rfl rfl rfl rfl rfl (le_lit rfl) rfl rfl rfl ?_)
          intro w194 p195 hs196
          replace f_y186 := f_y186.step p195
          clear p195 hs191
          refine Rg_nil ?_
          refine Wp_seq ?_
          refine Wp_region ?_  -- 15 disk.go:101
          refine Rg_op rfl (op_loadA (cs := [(Value.slice a_y186 perform_2.length c_y186), (Value.slice none 0 0), (Value.int .i64 (IntKind.wrap .i64 (d.left - (d.pending.length : Int)))), (Value.bool false)]) (vs := [(Value.slice a_y186 perform_2.length c_y186), (Value.slice none 0 0), (Value.int .i64 (IntKind.wrap .i64 (d.left - (d.pending.length : Int)))), (Value.bool false)]) (i := 0) ty25 hs196 rfl rfl rfl rfl ?_)
          refine Rg_op_ (op_store (cs := [(Value.slice a_y186 perform_2.length c_y186), (Value.slice none 0 0), (Value.int .i64 (IntKind.wrap .i64 (d.left - (d.pending.length : Int)))), (Value.bool false)]) (vs := [(Value.slice a_y186 perform_2.length c_y186), (Value.slice none 0 0), (Value.int .i64 (IntKind.wrap .i64 (d.left - (d.pending.length : Int)))), (Value.bool false)]) (cs' := [(Value.slice a_y186 perform_2.length c_y186), (Value.slice none 0 0), (Value.int .i64 (IntKind.wrap .i64 (d.left - (d.pending.length : Int)))), (Value.bool false)]) (bs' := [(some b6, Obj.cells [(Value.slice a_y186 perform_2.length c_y186), (Value.slice none 0 0), (Value.int .i64 (IntKind.wrap .i64 (d.left - (d.pending.length : Int)))), (Value.bool false)].toArray 25)]) (i := 0) ty25 hs196 rfl rfl rfl rfl rfl (le_lit rfl) rfl rfl rfl ?_)
          intro w197 p198 hs199
          replace f_y186 := f_y186.step p198
          clear p198 hs196
          refine Rg_op rfl (op_assign (v := (Value.int .i64 0)) rfl ?_)
          refine Rg_nil ?_
          refine Wp_ret ?_
          have hz := step_all hs199
          replace f_y186 := f_y186.step hz
          refine ⟨_, (show Closes [] _ _ from rfl), [(Value.agg [(Value.slice a_y186 perform_2.length c_y186), (Value.slice none 0 0), (Value.int .i64 (IntKind.wrap .i64 (d.left - (d.pending.length : Int)))), (Value.bool false)].toArray), (Value.int .i64 0)], ⟨resA (cs := [(Value.slice a_y186 perform_2.length c_y186), (Value.slice none 0 0), (Value.int .i64 (IntKind.wrap .i64 (d.left - (d.pending.length : Int)))), (Value.bool false)]) (vs := [(Value.slice a_y186 perform_2.length c_y186), (Value.slice none 0 0), (Value.int .i64 (IntKind.wrap .i64 (d.left - (d.pending.length : Int)))), (Value.bool false)]) ty25 (i := 0) hs199 rfl rfl rfl rfl, rfl, trivial⟩, hs199.ext, ?_⟩
          exact Vr.eq (a := (vT2 (vA rXDisk) (vI .i64))) (x := ((⟨perform_2, ([] : List XWrite), (IntKind.wrap .i64 (d.left - (d.pending.length : Int))), false⟩ : XDisk), 0)) (mkT2 (mkA (mkVia (mk_pair (mk_sl f_y186) (mk_pair (mk_sl SlR.nil_) (mk_pair (mk_int (inK_wrap .i64 _)) mkBool))))) ⟨rfl, (show InK .i64 0 from by decide)⟩) (Option.some.inj hm)
        ·
          replace hm := bif_f hm hc193
          refine Wp_skip ?_
          refine Wp_seq ?_
          refine Wp_region ?_  -- 15 disk.go:101
          refine Rg_op rfl (op_loadA (cs := [(Value.slice a_y186 perform_2.length c_y186), (Value.slice none 0 0), (Value.int .i64 d.left), (Value.bool false)]) (vs := [(Value.slice a_y186 perform_2.length c_y186), (Value.slice none 0 0), (Value.int .i64 d.left), (Value.bool false)]) (i := 0) ty25 hs191 rfl rfl rfl rfl ?_)
          refine Rg_op_ (op_store (cs := [(Value.slice a_y186 perform_2.length c_y186), (Value.slice none 0 0), (Value.int .i64 d.left), (Value.bool false)]) (vs := [(Value.slice a_y186 perform_2.length c_y186), (Value.slice none 0 0), (Value.int .i64 d.left), (Value.bool false)]) (cs' := [(Value.slice a_y186 perform_2.length c_y186), (Value.slice none 0 0), (Value.int .i64 d.left), (Value.bool false)]) (bs' := [(some b6, Obj.cells [(Value.slice a_y186 perform_2.length c_y186), (Value.slice none 0 0), (Value.int .i64 d.left), (Value.bool false)].toArray 25)]) (i := 0) ty25 hs191 rfl rfl rfl rfl rfl (le_lit rfl) rfl rfl rfl ?_)
          intro w200 p201 hs202
          replace f_y186 := f_y186.step p201
          clear p201 hs191
          refine Rg_op rfl (op_assign (v := (Value.int .i64 0)) rfl ?_)
          refine Rg_nil ?_
          refine Wp_ret ?_
          have hz := step_all hs202
          replace f_y186 := f_y186.step hz
          refine ⟨_, (show Closes [] _ _ from rfl), [(Value.agg [(Value.slice a_y186 perform_2.length c_y186), (Value.slice none 0 0), (Value.int .i64 d.left), (Value.bool false)].toArray), (Value.int .i64 0)], ⟨resA (cs := [(Value.slice a_y186 perform_2.length c_y186), (Value.slice none 0 0), (Value.int .i64 d.left), (Value.bool false)]) (vs := [(Value.slice a_y186 perform_2.length c_y186), (Value.slice none 0 0), (Value.int .i64 d.left), (Value.bool false)]) ty25 (i := 0) hs202 rfl rfl rfl rfl, rfl, trivial⟩, hs202.ext, ?_⟩
          exact Vr.eq (a := (vT2 (vA rXDisk) (vI .i64))) (x := ((⟨perform_2, ([] : List XWrite), d.left, false⟩ : XDisk), 0)) (mkT2 (mkA (mkVia (mk_pair (mk_sl f_y186) (mk_pair (mk_sl SlR.nil_) (mk_pair (mk_int r_d_left) mkBool))))) ⟨rfl, (show InK .i64 0 from by decide)⟩) (Option.some.inj hm)
    ·
      intro K29 hK29
      have ch203 := Step.refl (ks [(some b6, Obj.cells [(Value.slice none 0 0), (Value.slice none 0 0), (Value.int .i64 0), (Value.bool false)].toArray 25), (some b1, Obj.cells [(Value.slice a_d_sectors d.sectors.length c_d_sectors), (Value.slice a_d_pending d.pending.length c_d_pending), (Value.int .i64 d.left), (Value.bool d.stopped)].toArray 25)] O) w13
      refine Wp_region ?_  -- 4 disk.go:88
      refine Rg_op rfl (op_fieldAddr ty25 rfl ty3 (by decide) rfl (rfl : _ = (⟨_, 2, none⟩ : Addr)) ?_)
      refine Rg_op rfl (op_load (cs := [(Value.slice a_d_sectors d.sectors.length c_d_sectors), (Value.slice a_d_pending d.pending.length c_d_pending), (Value.int .i64 d.left), (Value.bool d.stopped)]) (i := 1) ty3 hs16 rfl rfl rfl ?_)
      refine Rg_op rfl (op_geq rfl rfl ?_)
      refine Rg_op rfl (op_move (v := (Value.bool (decide (0 ≤ d.left)))) rfl ?_)
      refine Rg_case (fun hg204 => ?_) (fun hg204 => ?_)
      ·
        replace hm := bif_t hm hg204
        refine Rg_opg rfl rfl rfl (op_fieldAddr ty25 rfl ty3 (by decide) rfl (rfl : _ = (⟨_, 2, none⟩ : Addr)) ?_)
        refine Rg_opg rfl rfl rfl (op_load (cs := [(Value.slice a_d_sectors d.sectors.length c_d_sectors), (Value.slice a_d_pending d.pending.length c_d_pending), (Value.int .i64 d.left), (Value.bool d.stopped)]) (i := 1) ty3 hs16 rfl rfl rfl ?_)
        refine Rg_opg rfl rfl rfl (op_move (v := (Value.int .i64 (d.pending.length : Int))) rfl ?_)
        refine Rg_opg rfl rfl rfl (op_lss rfl rfl ?_)
        refine Rg_op rfl (op_pick_t (v := (Value.bool (decide (d.left < (d.pending.length : Int))))) rfl rfl ?_)
        refine Rg_nil ?_
        exact hK29 _ _ ⟨(decide (d.left < (d.pending.length : Int))), _, rfl, ⟨(by repeat (first | with_reducible exact Out.refl _ _ | refine Out.upd ?_ rfl | refine Out.updL ?_ rfl | refine Out.mix' ?_ rfl | exact Out.refl _ _)), rfl, rfl, trivial⟩, ch203, hs16, hm⟩
      ·
        replace hm := bif_f hm hg204
        refine Rg_opx rfl (asB_ne rfl rfl) rfl ?_
        refine Rg_opx rfl (asB_ne rfl rfl) rfl ?_
        refine Rg_opx rfl (asB_ne rfl rfl) rfl ?_
        refine Rg_opx rfl (asB_ne rfl rfl) rfl ?_
        refine Rg_op rfl (op_pick_f (v := (Value.bool false)) rfl rfl ?_)
        refine Rg_nil ?_
        exact hK29 _ _ ⟨false, _, rfl, ⟨(by repeat (first | with_reducible exact Out.refl _ _ | refine Out.upd ?_ rfl | refine Out.updL ?_ rfl | refine Out.mix' ?_ rfl | exact Out.refl _ _)), rfl, rfl, trivial⟩, ch203, hs16, hm⟩

end Go.Fx


set_option linter.unusedVariables false
set_option linter.unusedSimpArgs false
set_option maxRecDepth 100000
set_option maxHeartbeats 0
namespace Go.Fx
open Go Go.RowKit Go.Proofs
def m68_api_Write__1_B0 (fv0_ : List XWrite) (sf13 : Int → Option (List (Int × XWrite))) (i_1 : Int) : Option (List (Int × XWrite)) :=
  bif (decide (0 ≤ i_1)) then
    ck ((0 : Int) ≤ i_1 ∧ i_1 < (fv0_.length : Int)) <|
    yl (i_1, (fv0_.getD i_1.toNat default)) (
    sf13 (IntKind.wrap .i64 (i_1 - 1)))
  else
    some ([] : List (Int × XWrite))

def m68_api_Write__1 (fv0_ : List XWrite) : Option (List (Int × XWrite)) :=
  loop1 (m68_api_Write__1_B0 fv0_) (1000000) (IntKind.wrap .i64 ((fv0_.length : Int) - 1))

theorem c68_api_Write__1 {w : World} {O : List Nat} {fv0_ : List XWrite} {p_fv0_ : Addr} (hO : ∀ k ∈ O, k < w.heap.size) (f_fv0_ : PtR (rSl rXWrite) w O p_fv0_ fv0_) {L : List (Int × XWrite)} (hm : m68_api_Write__1 fv0_ = some L) :
    IterF Try.prog w O 68 [(Value.pointer (some p_fv0_))] (enc2 (vI .i64) (vA rXWrite)) L := by
  unfold m68_api_Write__1 at hm
  obtain ⟨x, hm, hL⟩ : ∃ x, _ = some x ∧ L = [] ++ x := ⟨L, hm, rfl⟩
  intro w1 O1 hst0 hO1 l J Jx hJ hJx hY h0
  replace f_fv0_ := f_fv0_.step hst0
  refine Fn_of_Wp (n := 19) (xs := []) Try.func68 rfl Try.ntmps68 Try.results68 rfl ?_
  have hs := St.start hO1
  have hI := Itr.start h0
  refine Wp_seq ?_
  refine Wp_region ?_  -- 0 iter.go:28
  refine Rg_op rfl (op_loadP ty23 rfl f_fv0_ rfl ?_)
  intro v1 h2
  obtain ⟨a_y3, c_y3, rfl, f_y3⟩ := un_sl h2
  refine Rg_op rfl (op_len Try.underlying23 rfl ?_)
  refine Rg_op rfl (op_subw rfl rfl ?_)
  refine Rg_op rfl (op_assign (v := (Value.int .i64 (IntKind.wrap .i64 ((fv0_.length : Int) - 1)))) rfl ?_)
  refine Rg_nil ?_
  refine Wp_block ?_
  refine Wp_reset [] [(0, (Value.func (.yield l) #[] #[])), (1, (Value.pointer (some p_fv0_))), (3, (Value.int .i64 (IntKind.wrap .i64 ((fv0_.length : Int) - 1))))] rfl ⟨rfl, rfl, rfl, trivial⟩ fun ξ12 => ?_
  refine Wp_loopM [3, 7, 8, 9, 10, 11, 12, 13, 14, 15, 16, 17, 18] (fun m fr w' => ∃ (i_1 : Int) (xr5 pre6 : List (Int × XWrite)) (wz7 : World) (Kz8 Oz9 : List Nat) (Ebs : Ents), Ebs = [] ∧ fr [] [(3, (Value.int .i64 i_1))] ∧ Step (ks [] O1) w1 (ks Ebs Oz9) w' ∧ St ⟨wz7, Kz8, []⟩ Oz9 w' Ebs ∧ InK .i64 i_1 ∧ Itr J pre6 ⟨wz7, Kz8, []⟩ Oz9 ∧ L = pre6 ++ xr5 ∧ loop1 (m68_api_Write__1_B0 fv0_) m i_1 = some xr5) (1000000) ⟨(IntKind.wrap .i64 ((fv0_.length : Int) - 1)), x, ([] : List _), w1, [], O1, _, rfl, ⟨Out.refl _ _, rfl, rfl, trivial⟩, Step.refl _ _, hs, (inK_wrap .i64 _), hI, hL, hm⟩ ?_ ?_
  · rintro _ _ ⟨_, _, _, _, _, _, _, _, _, _, _, _, _, _, hm⟩; exact loop1_z hm
  · rintro m16 K15 hK15 ρ21 w17 ⟨i_1, xr5, pre6, wz7, Kz8, Oz9, Ebs, hEbs, hfr20, hst19, hs18, r_y4, hI10, hL11, hm⟩
    obtain ⟨sf13, hsf14, hm⟩ := loop1_s hm; unfold m68_api_Write__1_B0 at hm
    subst hEbs; rw [hfr20.eq]; clear hfr20
    replace f_fv0_ := f_fv0_.step hst19
    replace f_y3 := f_y3.step hst19
    have ch22 := hst19
    refine Wp_seq ?_
    refine Wp_seq ?_
    clear f_y3
    refine Wp_region ?_  -- 1 iter.go:28
    refine Rg_op rfl (op_move (v := (Value.int .i64 i_1)) rfl ?_)
    refine Rg_op rfl (op_geq rfl rfl ?_)
    refine Rg_nil ?_
    refine Wp_cond rfl (fun hc23 => ?_) (fun hc23 => ?_)
    ·
      replace hm := bif_t hm hc23
      refine Wp_skip ?_
      refine Wp_seq ?_
      refine Wp_block ?_
      refine Wp_seq ?_
      refine Wp_region ?_  -- 3 iter.go:29
      refine Rg_op rfl (op_move (v := (Value.func (.yield l) #[] #[])) rfl ?_)
      refine Rg_op rfl (op_move (v := (Value.int .i64 i_1)) rfl ?_)
      refine Rg_op rfl (op_loadP ty23 rfl f_fv0_ rfl ?_)
      intro v24 h25
      obtain ⟨a_y26, c_y26, rfl, f_y26⟩ := un_sl h25
      refine Rg_op rfl (op_move (v := (Value.int .i64 i_1)) rfl ?_)
      replace hm := ck_some hm; obtain ⟨hc27, hm⟩ := hm
      refine Rg_op rfl (op_indexAddr (q := rXWrite) ty23 ty73 rfl rfl f_y26 rfl hc27.1 hc27.2 ?_)
      intro p28 f29
      refine Rg_op rfl (op_loadPA ty73 rfl f29 rfl ?_)
      intro vs30 h31
      obtain ⟨_, _, rfl, ⟨rfl, r_y32_at_⟩, ⟨a_y32_data, c_y32_data, rfl, f_y32_data⟩⟩ := h31
      replace hm := yl_elim hm; obtain ⟨xr33, hm, hL34⟩ := hm
      rw [hL34] at hL11
      refine Rg_op rfl (op_yield (pre := pre6) (a := (i_1, (fv0_.getD i_1.toNat default))) rfl rfl hY hJ hI10 hs18 ⟨xr33, by rw [hL11]; simp⟩ (show (enc2 (vI .i64) (vA rXWrite)) _ _ _ _ from ⟨_, _, rfl, ⟨rfl, r_y4⟩, (mkA (mkVia (mk_pair (mk_int r_y32_at_) (mk_sl f_y32_data))))⟩) ?_ ?_)
      ·
        intro w35 O36 hs37 p38 hI39
        replace f_fv0_ := f_fv0_.step p38
        replace f_y26 := f_y26.step p38
        replace f29 := f29.step p38
        replace f_y32_data := f_y32_data.step p38
        replace ch22 := ch22.trans p38
        clear p38 hs18
        have hL40 : L = (pre6 ++ [(i_1, (fv0_.getD i_1.toNat default))]) ++ xr33 := by rw [hL11]; simp
        refine Rg_op rfl (op_not rfl ?_)
        refine Rg_nil ?_
        refine Wp_cond_f rfl ?_
        refine Wp_skip ?_
        clear f_y26 f29 f_y32_data
        refine Wp_region ?_  -- 2 iter.go:28
        refine Rg_op rfl (op_move (v := (Value.int .i64 i_1)) rfl ?_)
        refine Rg_op rfl (op_subw rfl rfl ?_)
        refine Rg_op rfl (op_assign (v := (Value.int .i64 (IntKind.wrap .i64 (i_1 - 1)))) rfl ?_)
        refine Rg_nil ?_
        exact hK15 _ _ ⟨(IntKind.wrap .i64 (i_1 - 1)), xr33, (pre6 ++ [(i_1, (fv0_.getD i_1.toNat default))]), w35, (List.filterMap Prod.fst []), O36, _, rfl, ⟨(by repeat (first | with_reducible exact Out.refl _ _ | refine Out.upd ?_ rfl | refine Out.updL ?_ rfl | refine Out.mix' ?_ rfl | exact Out.refl _ _)), rfl, rfl, trivial⟩, ch22, hs37, (inK_wrap .i64 _), hI39, hL40, jnE1 hsf14 hm⟩
      ·
        intro w41 O42 hs43 hI45
        refine Rg_op rfl (op_not rfl ?_)
        refine Rg_nil ?_
        refine Wp_cond_t rfl ?_
        refine Wp_ret ?_
        exact ⟨_, (show Closes [] _ _ from rfl), [], trivial, _, .inr ⟨_, hI45.fin hJx hs43⟩⟩
    ·
      replace hm := bif_f hm hc23
      refine Wp_exit ?_
      have h46 := hI10.fin hJ hs18
      rw [← Option.some.inj hm, List.append_nil] at hL11; rw [← hL11] at h46
      exact ⟨_, (show Closes [] _ _ from rfl), [], trivial, _, .inl h46⟩

end Go.Fx


set_option linter.unusedVariables false
set_option linter.unusedSimpArgs false
set_option maxRecDepth 100000
set_option maxHeartbeats 0
namespace Go.Fx
open Go Go.RowKit Go.Proofs
def m53_api_Write_ (s : List XWrite) : Option (List (Int × XWrite)) :=
  (m68_api_Write__1 s).bind fun l_1 =>
  some l_1

theorem c53_api_Write_ {w : World} {O : List Nat} {s : List XWrite} {a_s : Option Addr} {c_s : Nat} (hO : ∀ k ∈ O, k < w.heap.size) (f_s : SlR rXWrite w O a_s c_s s) {x : (List (Int × XWrite))} (hm : m53_api_Write_ s = some x) :
    Ok Try.prog 53 [(Value.slice a_s s.length c_s)] w O (vIt Try.prog (enc2 (vI .i64) (vA rXWrite))) x := by
  unfold m53_api_Write_ at hm
  refine Fn_of_Wp (n := 4) (xs := [.tmp 2]) Try.func53 rfl Try.ntmps53 Try.results53 rfl ?_
  have hs := St.start hO
  refine Wp_seq ?_
  refine Wp_region ?_  -- 0 iter.go:26
  refine Rg_op rfl (op_box (cs := [(Value.slice a_s s.length c_s)]) hs rfl rfl ?_)
  intro b1 w2 _ p3 hs4
  replace f_s := f_s.step p3
  clear p3
  refine Rg_op rfl (op_assign (v := Value.nilFunc) rfl ?_)
  refine Rg_nil ?_
  refine Wp_seq ?_
  refine Wp_region ?_  -- 1 iter.go:27
  obtain ⟨hs7, p8, f6⟩ := St.publishP (p := (rSl rXWrite)) (i := 0) (x := s) hs4 rfl (mk_sl f_s)
  replace f_s := f_s.step p8
  clear p8 hs4
  refine Rg_op rfl (op_makeFunc' (a' := []) (c' := [(Value.pointer (some (⟨b1, 0, none⟩ : Addr)))]) rfl rfl ?_)
  replace hm := bd hm; obtain ⟨l_1, hv9, hm⟩ := hm
  have F10 : ItR Try.prog (enc2 (vI .i64) (vA rXWrite)) w2 (ks [] O) (Value.func (.func 68) #[] #[(Value.pointer (some (⟨b1, 0, none⟩ : Addr)))]) l_1 := ⟨68, [(Value.pointer (some (⟨b1, 0, none⟩ : Addr)))], rfl, Try.call68, c68_api_Write__1 hs7.ltw f6 hv9⟩
  refine Rg_op rfl (op_assign (v := (Value.func (.func 68) #[] #[(Value.pointer (some (⟨b1, 0, none⟩ : Addr)))])) rfl ?_)
  refine Rg_nil ?_
  refine Wp_ret ?_
  have hz := step_all hs7
  replace f_s := f_s.step hz
  replace f6 := f6.step hz
  replace F10 := F10.step hz
  refine ⟨_, (show Closes [] _ _ from rfl), [(Value.func (.func 68) #[] #[(Value.pointer (some (⟨b1, 0, none⟩ : Addr)))])], ⟨rfl, trivial⟩, hs7.ext, ?_⟩
  exact Vr.eq (a := (vIt Try.prog (enc2 (vI .i64) (vA rXWrite)))) (x := l_1) F10 (Option.some.inj hm)

end Go.Fx


set_option linter.unusedVariables false
set_option linter.unusedSimpArgs false
set_option maxRecDepth 100000
set_option maxHeartbeats 0
namespace Go.Fx
open Go Go.RowKit Go.Proofs
def m27_disk_Read_B0 (at_ : Int) (k51 : (List UInt8) → Option ((List UInt8) × Int)) (sf69 : (List UInt8) → Option ((List UInt8) × Int)) (xi60 : Int × XWrite) (v_2 : List UInt8) : Option ((List UInt8) × Int) :=
  bif (decide (xi60.2.at_ = at_)) then
    k51 xi60.2.data
  else
    sf69 v_2

def m27_disk_Read (d : XDisk) (at_ : Int) : Option ((List UInt8) × Int) :=
  jn (fun (v_1 : Bool) =>
    bif v_1 then
      some (([] : List UInt8), 440)
    else
      (m53_api_Write_ d.pending).bind fun write_1 =>
      jn (fun (v_2 : List UInt8) =>
        ck ((0 : Int) ≤ at_ ∧ at_ < (d.sectors.length : Int)) <|
        some ((d.sectors.getD at_.toNat default), 0))
      (fun k49 =>
        jn (fun (v_2 : List UInt8) =>
          some (v_2, 0))
        (fun k51 =>
          rng1 (m27_disk_Read_B0 at_ k51) k49 write_1 ([] : List UInt8))))
  (fun k23 =>
    (m47_disk_runs d).bind fun runs_1 =>
    bif (!runs_1) then
      k23 true
    else
      (m48_disk_has d at_).bind fun has_1 =>
      k23 (!has_1))

theorem c27_disk_Read {w : World} {O : List Nat} {d : XDisk} {at_ : Int} {a_d_sectors : Option Addr} {c_d_sectors : Nat} {a_d_pending : Option Addr} {c_d_pending : Nat} (hO : ∀ k ∈ O, k < w.heap.size) (f_d_sectors : SlR (rSl rU8) w O a_d_sectors c_d_sectors d.sectors) (f_d_pending : SlR rXWrite w O a_d_pending c_d_pending d.pending) (r_d_left : InK .i64 d.left) (r_at_ : InK .i64 at_) {x : (List UInt8) × Int} (hm : m27_disk_Read d at_ = some x) :
    Ok Try.prog 27 [(Value.agg [(Value.slice a_d_sectors d.sectors.length c_d_sectors), (Value.slice a_d_pending d.pending.length c_d_pending), (Value.int .i64 d.left), (Value.bool d.stopped)].toArray), (Value.int .i64 at_)] w O (vT2 (vC (rSl rU8)) (vI .i64)) x := by
  unfold m27_disk_Read at hm
  refine Fn_of_Wp (n := 33) (xs := [.cell 4 41, .cell 5 28]) Try.func27 rfl Try.ntmps27 Try.results27 rfl ?_
  have hs := St.start hO
  refine Wp_seq ?_
  refine Wp_region ?_  -- 0 disk.go:45
  refine Rg_op rfl (op_box (cs := [(Value.slice a_d_sectors d.sectors.length c_d_sectors), (Value.slice a_d_pending d.pending.length c_d_pending), (Value.int .i64 d.left), (Value.bool d.stopped)]) hs rfl rfl ?_)
  intro b1 w2 _ p3 hs4
  replace f_d_sectors := f_d_sectors.step p3
  replace f_d_pending := f_d_pending.step p3
  clear p3
  refine Rg_op rfl (op_box (cs := [(Value.int .i64 at_)]) hs4 rfl rfl ?_)
  intro b6 w7 _ p8 hs9
  replace f_d_sectors := f_d_sectors.step p8
  replace f_d_pending := f_d_pending.step p8
  clear p8 hs4
  refine Rg_op rfl (op_alloc ty41 hs9 ?_)
  intro b11 w12 _ p13 hs14
  replace f_d_sectors := f_d_sectors.step p13
  replace f_d_pending := f_d_pending.step p13
  clear p13 hs9
  refine Rg_op rfl (op_alloc ty28 hs14 ?_)
  intro b16 w17 _ p18 hs19
  replace f_d_sectors := f_d_sectors.step p18
  replace f_d_pending := f_d_pending.step p18
  clear p18 hs14
  refine Rg_nil ?_
  refine Wp_seq ?_
  refine Wp_reset [] [(2, (Value.pointer (some ⟨b1, 0, none⟩))), (3, (Value.pointer (some ⟨b6, 0, none⟩))), (4, (Value.pointer (some ⟨b11, 0, none⟩))), (5, (Value.pointer (some ⟨b16, 0, none⟩)))] rfl ⟨rfl, rfl, rfl, rfl, trivial⟩ fun ξ21 => ?_
  replace hm := jn_elim hm; obtain ⟨k23, hk24, hm⟩ := hm
  refine Wp_seqJ [8, 9, 10, 11, 12, 13, 14, 15, 16] (fun fr w' => ∃ (v_1 : Bool) (Ebs : Ents), Ebs = [(some b16, Obj.cells [(Value.int .i64 0)].toArray 28), (some b11, Obj.cells [(Value.slice none 0 0)].toArray 41), (some b6, Obj.cells [(Value.int .i64 at_)].toArray 3), (some b1, Obj.cells [(Value.slice a_d_sectors d.sectors.length c_d_sectors), (Value.slice a_d_pending d.pending.length c_d_pending), (Value.int .i64 d.left), (Value.bool d.stopped)].toArray 25)] ∧ fr [] [(16, (Value.bool v_1))] ∧ Step (ks [(some b16, Obj.cells [(Value.int .i64 0)].toArray 28), (some b11, Obj.cells [(Value.slice none 0 0)].toArray 41), (some b6, Obj.cells [(Value.int .i64 at_)].toArray 3), (some b1, Obj.cells [(Value.slice a_d_sectors d.sectors.length c_d_sectors), (Value.slice a_d_pending d.pending.length c_d_pending), (Value.int .i64 d.left), (Value.bool d.stopped)].toArray 25)] O) w17 (ks Ebs O) w' ∧ St ⟨w, [], []⟩ O w' Ebs ∧ k23 v_1 = some x) ?_ ?_
  ·
    rintro ρ30 w26 ⟨v_1, Ebs, hEbs, hfr29, hst28, hs27, hm⟩
    replace hm := jnE1 hk24 hm
    subst hEbs; rw [hfr29.eq]; clear hfr29
    replace f_d_sectors := f_d_sectors.step hst28
    replace f_d_pending := f_d_pending.step hst28
    clear hst28 hs19
    refine Wp_cond rfl (fun hc31 => ?_) (fun hc31 => ?_)
    ·
      replace hm := bif_t hm hc31
      refine Wp_seq ?_
      obtain ⟨hs32, p33⟩ := hs27.sub (bs' := [(some b16, Obj.cells [(Value.int .i64 0)].toArray 28), (some b11, Obj.cells [(Value.slice none 0 0)].toArray 41)]) (.cons_cons _ (.cons_cons _ (.cons _ (.cons _ List.Sublist.slnil))))
      clear f_d_sectors f_d_pending
      clear p33 hs27
      refine Wp_region ?_  -- 2 disk.go:47
      refine Rg_op_ (op_store (cs := [(Value.slice none 0 0)]) (vs := [(Value.slice none 0 0)]) (cs' := [(Value.slice none 0 0)]) (bs' := [(some b16, Obj.cells [(Value.int .i64 0)].toArray 28), (some b11, Obj.cells [(Value.slice none 0 0)].toArray 41)]) (i := 1) ty41 hs32 rfl rfl rfl rfl rfl (le_lit rfl) rfl rfl rfl ?_)
      intro w34 p35 hs36
      clear p35 hs32
      refine Rg_op_ (op_store (cs := [(Value.int .i64 0)]) (vs := [(Value.int .i64 440)]) (cs' := [(Value.int .i64 440)]) (bs' := [(some b16, Obj.cells [(Value.int .i64 440)].toArray 28), (some b11, Obj.cells [(Value.slice none 0 0)].toArray 41)]) (i := 0) ty28 hs36 rfl rfl rfl rfl rfl (le_lit rfl) rfl rfl rfl ?_)
      intro w37 p38 hs39
      clear p38 hs36
      refine Rg_nil ?_
      refine Wp_ret ?_
      have hz := step_all hs39
      refine ⟨_, (show Closes [] _ _ from rfl), [(Value.slice none 0 0), (Value.int .i64 440)], ⟨res1 (cs := [(Value.slice none 0 0)]) ty41 (i := 1) hs39 rfl rfl rfl, res1 (cs := [(Value.int .i64 440)]) ty28 (i := 0) hs39 rfl rfl rfl, trivial⟩, hs39.ext, ?_⟩
      exact Vr.eq (a := (vT2 (vC (rSl rU8)) (vI .i64))) (x := (([] : List UInt8), 440)) (mkT2 (mkC (mk_sl SlR.nil_)) ⟨rfl, (show InK .i64 440 from by decide)⟩) (Option.some.inj hm)
    ·
      replace hm := bif_f hm hc31
      refine Wp_skip ?_
      refine Wp_seq ?_
      refine Wp_seq ?_
      refine Wp_region ?_  -- 3 disk.go:49
      refine Rg_op rfl (op_fieldAddr ty25 rfl ty23 (by decide) rfl (rfl : _ = (⟨_, 1, none⟩ : Addr)) ?_)
      refine Rg_op rfl (op_load (cs := [(Value.slice a_d_sectors d.sectors.length c_d_sectors), (Value.slice a_d_pending d.pending.length c_d_pending), (Value.int .i64 d.left), (Value.bool d.stopped)]) (i := 3) ty23 hs27 rfl rfl rfl ?_)
      replace hm := bd hm; obtain ⟨write_1, hv40, hm⟩ := hm
      refine Rg_op rfl (op_call Try.call53 (c53_api_Write_ (s := d.pending) hs27.ltw f_d_pending hv40) rfl ?_)
      rintro v41 w42 ⟨hx43, h44⟩
      have hs45 := hs27.call hx43
      have p46 := Step.ext (O := ks [(some b16, Obj.cells [(Value.int .i64 0)].toArray 28), (some b11, Obj.cells [(Value.slice none 0 0)].toArray 41), (some b6, Obj.cells [(Value.int .i64 at_)].toArray 3), (some b1, Obj.cells [(Value.slice a_d_sectors d.sectors.length c_d_sectors), (Value.slice a_d_pending d.pending.length c_d_pending), (Value.int .i64 d.left), (Value.bool d.stopped)].toArray 25)] O) hx43
      clear hx43
      replace f_d_sectors := f_d_sectors.step p46
      replace f_d_pending := f_d_pending.step p46
      clear p46 hs27
      have F_y47 : ItR Try.prog (enc2 (vI .i64) (vA rXWrite)) _ _ v41 write_1 := h44
      refine Rg_nil ?_
      refine Wp_block ?_
      have hit57 := F_y47; obtain ⟨fk53, cp54, hvq55, hcl56, hit57⟩ := hit57
      replace hm := jn_elim hm; obtain ⟨k49, hk50, hm⟩ := hm
      replace hm := jn_elim hm; obtain ⟨k51, hk52, hm⟩ := hm
      refine Wp_rangeFunc (σ := (List UInt8) × (Option Addr) × Nat) (ps := [20, 21]) hs45 (rfl.trans hvq55) hcl56 hit57 rfl enc2_len enc2_step (fun s => match s with | (v_2, a_y48, c_y48) => [(some b16, Obj.cells [(Value.int .i64 0)].toArray 28), (some b11, Obj.cells [(Value.slice a_y48 v_2.length c_y48)].toArray 41), (some b6, Obj.cells [(Value.int .i64 at_)].toArray 3), (some b1, Obj.cells [(Value.slice a_d_sectors d.sectors.length c_d_sectors), (Value.slice a_d_pending d.pending.length c_d_pending), (Value.int .i64 d.left), (Value.bool d.stopped)].toArray 25)]) (fun s w O => match s with | (v_2, a_y48, c_y48) => SlR rU8 w O a_y48 c_y48 v_2) (fun s w O w' O' p h => by obtain ⟨v_2, a_y48, c_y48⟩ := s; have h : SlR rU8 w O a_y48 c_y48 v_2 := h; have f_y48 := h; exact f_y48.step p) (fun s l => match s with | (v_2, a_y48, c_y48) => rng1 (m27_disk_Read_B0 at_ k51) k49 l v_2 = some x) [none] (fun e s => match e, s with | none, (v_2, a_y48, c_y48) => k51 v_2 = some x | _, _ => False) (([] : List UInt8), none, 0) rfl SlR.nil_ hm ?_ ?_ ?_
      ·
        rintro l58 E59 ⟨v_2, a_y48, c_y48⟩ xi60 rest61 w62 vs63 z64 hz65 hs66 hst67 f_y48 hm hx68
        replace hs66 : St z64 (E59 ++ O) w62 [(some b16, Obj.cells [(Value.int .i64 0)].toArray 28), (some b11, Obj.cells [(Value.slice a_y48 v_2.length c_y48)].toArray 41), (some b6, Obj.cells [(Value.int .i64 at_)].toArray 3), (some b1, Obj.cells [(Value.slice a_d_sectors d.sectors.length c_d_sectors), (Value.slice a_d_pending d.pending.length c_d_pending), (Value.int .i64 d.left), (Value.bool d.stopped)].toArray 25)] := hs66
        have ch71 : Step (ks [(some b16, Obj.cells [(Value.int .i64 0)].toArray 28), (some b11, Obj.cells [(Value.slice none 0 0)].toArray 41), (some b6, Obj.cells [(Value.int .i64 at_)].toArray 3), (some b1, Obj.cells [(Value.slice a_d_sectors d.sectors.length c_d_sectors), (Value.slice a_d_pending d.pending.length c_d_pending), (Value.int .i64 d.left), (Value.bool d.stopped)].toArray 25)] O) w42 (ks [(some b16, Obj.cells [(Value.int .i64 0)].toArray 28), (some b11, Obj.cells [(Value.slice a_y48 v_2.length c_y48)].toArray 41), (some b6, Obj.cells [(Value.int .i64 at_)].toArray 3), (some b1, Obj.cells [(Value.slice a_d_sectors d.sectors.length c_d_sectors), (Value.slice a_d_pending d.pending.length c_d_pending), (Value.int .i64 d.left), (Value.bool d.stopped)].toArray 25)] (E59 ++ O)) w62 := hst67; clear hst67
        replace f_y48 : SlR rU8 w62 (ks [(some b16, Obj.cells [(Value.int .i64 0)].toArray 28), (some b11, Obj.cells [(Value.slice a_y48 v_2.length c_y48)].toArray 41), (some b6, Obj.cells [(Value.int .i64 at_)].toArray 3), (some b1, Obj.cells [(Value.slice a_d_sectors d.sectors.length c_d_sectors), (Value.slice a_d_pending d.pending.length c_d_pending), (Value.int .i64 d.left), (Value.bool d.stopped)].toArray 25)] (E59 ++ O)) a_y48 c_y48 v_2 := f_y48
        obtain ⟨sf69, hsf70, hm⟩ := rng1_s (show rng1 _ _ (xi60 :: rest61) v_2 = some _ from hm)
        unfold m27_disk_Read_B0 at hm
        replace f_d_sectors := f_d_sectors.step ch71
        replace f_d_pending := f_d_pending.step ch71
        replace F_y47 := F_y47.step ch71
        replace hx68 : (enc2 (vI .i64) (vA rXWrite)) xi60 w62 (ks [(some b16, Obj.cells [(Value.int .i64 0)].toArray 28), (some b11, Obj.cells [(Value.slice a_y48 v_2.length c_y48)].toArray 41), (some b6, Obj.cells [(Value.int .i64 at_)].toArray 3), (some b1, Obj.cells [(Value.slice a_d_sectors d.sectors.length c_d_sectors), (Value.slice a_d_pending d.pending.length c_d_pending), (Value.int .i64 d.left), (Value.bool d.stopped)].toArray 25)] (E59 ++ O)) vs63 := hx68
        obtain ⟨v72, v73, rfl, h74, h75⟩ := hx68
        obtain ⟨rfl, r_y76⟩ := h74
        obtain ⟨_, rfl, ⟨_, _, rfl, ⟨rfl, r_y77_at_⟩, ⟨a_y77_data, c_y77_data, rfl, f_y77_data⟩⟩⟩ := h75
        refine Wp_region ?_  -- 4 disk.go:49
        refine Rg_op rfl (op_alloc ty73 hs66 ?_)
        intro b78 w79 _ p80 hs81
        replace f_d_sectors := f_d_sectors.step p80
        replace f_d_pending := f_d_pending.step p80
        replace F_y47 := F_y47.step p80
        replace f_y48 := f_y48.step p80
        replace f_y77_data := f_y77_data.step p80
        replace ch71 := ch71.trans p80
        clear p80 hs66
        refine Rg_op_ (op_store (cs := [(Value.int .i64 0), (Value.slice none 0 0)]) (vs := [(Value.int .i64 xi60.2.at_), (Value.slice a_y77_data xi60.2.data.length c_y77_data)]) (cs' := [(Value.int .i64 xi60.2.at_), (Value.slice a_y77_data xi60.2.data.length c_y77_data)]) (bs' := [(some b78, Obj.cells [(Value.int .i64 xi60.2.at_), (Value.slice a_y77_data xi60.2.data.length c_y77_data)].toArray 73), (some b16, Obj.cells [(Value.int .i64 0)].toArray 28), (some b11, Obj.cells [(Value.slice a_y48 v_2.length c_y48)].toArray 41), (some b6, Obj.cells [(Value.int .i64 at_)].toArray 3), (some b1, Obj.cells [(Value.slice a_d_sectors d.sectors.length c_d_sectors), (Value.slice a_d_pending d.pending.length c_d_pending), (Value.int .i64 d.left), (Value.bool d.stopped)].toArray 25)]) (i := 0) ty73 hs81 rfl rfl rfl rfl rfl (le_lit rfl) rfl rfl rfl ?_)
        intro w83 p84 hs85
        replace f_d_sectors := f_d_sectors.step p84
        replace f_d_pending := f_d_pending.step p84
        replace F_y47 := F_y47.step p84
        replace f_y48 := f_y48.step p84
        replace f_y77_data := f_y77_data.step p84
        replace ch71 := ch71.trans p84
        clear p84 hs81
        refine Rg_nil ?_
        refine Exists.intro _ (And.intro hs85 ?_)
        intro w86 z87 RQ88 hz89 hs90 p91 hN92 hX93
        replace f_d_sectors := f_d_sectors.step p91
        replace f_d_pending := f_d_pending.step p91
        replace F_y47 := F_y47.step p91
        replace f_y48 := f_y48.step p91
        replace f_y77_data := f_y77_data.step p91
        replace ch71 := ch71.trans p91
        clear p91 hs85
        refine Wp_block ?_
        refine Wp_seq ?_
        refine Wp_region ?_  -- 5 disk.go:50
        refine Rg_op rfl (op_fieldAddr ty73 rfl ty3 (by decide) rfl (rfl : _ = (⟨_, 0, none⟩ : Addr)) ?_)
        refine Rg_op rfl (op_load (cs := [(Value.int .i64 xi60.2.at_), (Value.slice a_y77_data xi60.2.data.length c_y77_data)]) (i := 0) ty3 hs90 rfl rfl rfl ?_)
        refine Rg_op rfl (op_load (cs := [(Value.int .i64 at_)]) (i := 3) ty3 hs90 rfl rfl rfl ?_)
        refine Rg_op rfl (op_eql rfl rfl ?_)
        refine Rg_nil ?_
        refine Wp_cond rfl (fun hc94 => ?_) (fun hc94 => ?_)
        ·
          replace hm := bif_t hm hc94
          refine Wp_seq ?_
          clear F_y47
          refine Wp_region ?_  -- 6 disk.go:51
          refine Rg_op rfl (op_fieldAddr ty73 rfl ty41 (by decide) rfl (rfl : _ = (⟨_, 1, none⟩ : Addr)) ?_)
          refine Rg_op rfl (op_load (cs := [(Value.int .i64 xi60.2.at_), (Value.slice a_y77_data xi60.2.data.length c_y77_data)]) (i := 0) ty41 hs90 rfl rfl rfl ?_)
          refine Rg_op_ (op_store (cs := [(Value.slice a_y48 v_2.length c_y48)]) (vs := [(Value.slice a_y77_data xi60.2.data.length c_y77_data)]) (cs' := [(Value.slice a_y77_data xi60.2.data.length c_y77_data)]) (bs' := [(some b78, Obj.cells [(Value.int .i64 xi60.2.at_), (Value.slice a_y77_data xi60.2.data.length c_y77_data)].toArray 73), (some b16, Obj.cells [(Value.int .i64 0)].toArray 28), (some b11, Obj.cells [(Value.slice a_y77_data xi60.2.data.length c_y77_data)].toArray 41), (some b6, Obj.cells [(Value.int .i64 at_)].toArray 3), (some b1, Obj.cells [(Value.slice a_d_sectors d.sectors.length c_d_sectors), (Value.slice a_d_pending d.pending.length c_d_pending), (Value.int .i64 d.left), (Value.bool d.stopped)].toArray 25)]) (i := 2) ty41 hs90 rfl rfl rfl rfl rfl (le_lit rfl) rfl rfl rfl ?_)
          intro w95 p96 hs97
          replace f_d_sectors := f_d_sectors.step p96
          replace f_d_pending := f_d_pending.step p96
          replace f_y48 := f_y48.step p96
          replace f_y77_data := f_y77_data.step p96
          replace ch71 := ch71.trans p96
          clear p96 hs90
          refine Rg_op_ (op_store (cs := [(Value.int .i64 0)]) (vs := [(Value.int .i64 0)]) (cs' := [(Value.int .i64 0)]) (bs' := [(some b78, Obj.cells [(Value.int .i64 xi60.2.at_), (Value.slice a_y77_data xi60.2.data.length c_y77_data)].toArray 73), (some b16, Obj.cells [(Value.int .i64 0)].toArray 28), (some b11, Obj.cells [(Value.slice a_y77_data xi60.2.data.length c_y77_data)].toArray 41), (some b6, Obj.cells [(Value.int .i64 at_)].toArray 3), (some b1, Obj.cells [(Value.slice a_d_sectors d.sectors.length c_d_sectors), (Value.slice a_d_pending d.pending.length c_d_pending), (Value.int .i64 d.left), (Value.bool d.stopped)].toArray 25)]) (i := 1) ty28 hs97 rfl rfl rfl rfl rfl (le_lit rfl) rfl rfl rfl ?_)
          intro w98 p99 hs100
          replace f_d_sectors := f_d_sectors.step p99
          replace f_d_pending := f_d_pending.step p99
          replace f_y48 := f_y48.step p99
          replace f_y77_data := f_y77_data.step p99
          replace ch71 := ch71.trans p99
          clear p99 hs97
          refine Rg_nil ?_
          refine Wp_ret ?_
          have hs101 := hs100.drop 0
          replace f_d_sectors := f_d_sectors.step (Step.drop _ _ [(some b78, Obj.cells [(Value.int .i64 xi60.2.at_), (Value.slice a_y77_data xi60.2.data.length c_y77_data)].toArray 73), (some b16, Obj.cells [(Value.int .i64 0)].toArray 28), (some b11, Obj.cells [(Value.slice a_y77_data xi60.2.data.length c_y77_data)].toArray 41), (some b6, Obj.cells [(Value.int .i64 at_)].toArray 3), (some b1, Obj.cells [(Value.slice a_d_sectors d.sectors.length c_d_sectors), (Value.slice a_d_pending d.pending.length c_d_pending), (Value.int .i64 d.left), (Value.bool d.stopped)].toArray 25)] 0)
          replace f_d_pending := f_d_pending.step (Step.drop _ _ [(some b78, Obj.cells [(Value.int .i64 xi60.2.at_), (Value.slice a_y77_data xi60.2.data.length c_y77_data)].toArray 73), (some b16, Obj.cells [(Value.int .i64 0)].toArray 28), (some b11, Obj.cells [(Value.slice a_y77_data xi60.2.data.length c_y77_data)].toArray 41), (some b6, Obj.cells [(Value.int .i64 at_)].toArray 3), (some b1, Obj.cells [(Value.slice a_d_sectors d.sectors.length c_d_sectors), (Value.slice a_d_pending d.pending.length c_d_pending), (Value.int .i64 d.left), (Value.bool d.stopped)].toArray 25)] 0)
          replace f_y48 := f_y48.step (Step.drop _ _ [(some b78, Obj.cells [(Value.int .i64 xi60.2.at_), (Value.slice a_y77_data xi60.2.data.length c_y77_data)].toArray 73), (some b16, Obj.cells [(Value.int .i64 0)].toArray 28), (some b11, Obj.cells [(Value.slice a_y77_data xi60.2.data.length c_y77_data)].toArray 41), (some b6, Obj.cells [(Value.int .i64 at_)].toArray 3), (some b1, Obj.cells [(Value.slice a_d_sectors d.sectors.length c_d_sectors), (Value.slice a_d_pending d.pending.length c_d_pending), (Value.int .i64 d.left), (Value.bool d.stopped)].toArray 25)] 0)
          replace f_y77_data := f_y77_data.step (Step.drop _ _ [(some b78, Obj.cells [(Value.int .i64 xi60.2.at_), (Value.slice a_y77_data xi60.2.data.length c_y77_data)].toArray 73), (some b16, Obj.cells [(Value.int .i64 0)].toArray 28), (some b11, Obj.cells [(Value.slice a_y77_data xi60.2.data.length c_y77_data)].toArray 41), (some b6, Obj.cells [(Value.int .i64 at_)].toArray 3), (some b1, Obj.cells [(Value.slice a_d_sectors d.sectors.length c_d_sectors), (Value.slice a_d_pending d.pending.length c_d_pending), (Value.int .i64 d.left), (Value.bool d.stopped)].toArray 25)] 0)
          replace ch71 := ch71.trans (Step.drop _ _ [(some b78, Obj.cells [(Value.int .i64 xi60.2.at_), (Value.slice a_y77_data xi60.2.data.length c_y77_data)].toArray 73), (some b16, Obj.cells [(Value.int .i64 0)].toArray 28), (some b11, Obj.cells [(Value.slice a_y77_data xi60.2.data.length c_y77_data)].toArray 41), (some b6, Obj.cells [(Value.int .i64 at_)].toArray 3), (some b1, Obj.cells [(Value.slice a_d_sectors d.sectors.length c_d_sectors), (Value.slice a_d_pending d.pending.length c_d_pending), (Value.int .i64 d.left), (Value.bool d.stopped)].toArray 25)] 0)
          clear hs100
          exact hX93 none (xi60.2.data, a_y77_data, c_y77_data) _ _ (by simp) hs101 ch71 f_y77_data hm
        ·
          replace hm := bif_f hm hc94
          refine Wp_skip ?_
          have hs102 := hs90.drop 0
          replace f_d_sectors := f_d_sectors.step (Step.drop _ _ [(some b78, Obj.cells [(Value.int .i64 xi60.2.at_), (Value.slice a_y77_data xi60.2.data.length c_y77_data)].toArray 73), (some b16, Obj.cells [(Value.int .i64 0)].toArray 28), (some b11, Obj.cells [(Value.slice a_y48 v_2.length c_y48)].toArray 41), (some b6, Obj.cells [(Value.int .i64 at_)].toArray 3), (some b1, Obj.cells [(Value.slice a_d_sectors d.sectors.length c_d_sectors), (Value.slice a_d_pending d.pending.length c_d_pending), (Value.int .i64 d.left), (Value.bool d.stopped)].toArray 25)] 0)
          replace f_d_pending := f_d_pending.step (Step.drop _ _ [(some b78, Obj.cells [(Value.int .i64 xi60.2.at_), (Value.slice a_y77_data xi60.2.data.length c_y77_data)].toArray 73), (some b16, Obj.cells [(Value.int .i64 0)].toArray 28), (some b11, Obj.cells [(Value.slice a_y48 v_2.length c_y48)].toArray 41), (some b6, Obj.cells [(Value.int .i64 at_)].toArray 3), (some b1, Obj.cells [(Value.slice a_d_sectors d.sectors.length c_d_sectors), (Value.slice a_d_pending d.pending.length c_d_pending), (Value.int .i64 d.left), (Value.bool d.stopped)].toArray 25)] 0)
          replace F_y47 := F_y47.step (Step.drop _ _ [(some b78, Obj.cells [(Value.int .i64 xi60.2.at_), (Value.slice a_y77_data xi60.2.data.length c_y77_data)].toArray 73), (some b16, Obj.cells [(Value.int .i64 0)].toArray 28), (some b11, Obj.cells [(Value.slice a_y48 v_2.length c_y48)].toArray 41), (some b6, Obj.cells [(Value.int .i64 at_)].toArray 3), (some b1, Obj.cells [(Value.slice a_d_sectors d.sectors.length c_d_sectors), (Value.slice a_d_pending d.pending.length c_d_pending), (Value.int .i64 d.left), (Value.bool d.stopped)].toArray 25)] 0)
          replace f_y48 := f_y48.step (Step.drop _ _ [(some b78, Obj.cells [(Value.int .i64 xi60.2.at_), (Value.slice a_y77_data xi60.2.data.length c_y77_data)].toArray 73), (some b16, Obj.cells [(Value.int .i64 0)].toArray 28), (some b11, Obj.cells [(Value.slice a_y48 v_2.length c_y48)].toArray 41), (some b6, Obj.cells [(Value.int .i64 at_)].toArray 3), (some b1, Obj.cells [(Value.slice a_d_sectors d.sectors.length c_d_sectors), (Value.slice a_d_pending d.pending.length c_d_pending), (Value.int .i64 d.left), (Value.bool d.stopped)].toArray 25)] 0)
          replace f_y77_data := f_y77_data.step (Step.drop _ _ [(some b78, Obj.cells [(Value.int .i64 xi60.2.at_), (Value.slice a_y77_data xi60.2.data.length c_y77_data)].toArray 73), (some b16, Obj.cells [(Value.int .i64 0)].toArray 28), (some b11, Obj.cells [(Value.slice a_y48 v_2.length c_y48)].toArray 41), (some b6, Obj.cells [(Value.int .i64 at_)].toArray 3), (some b1, Obj.cells [(Value.slice a_d_sectors d.sectors.length c_d_sectors), (Value.slice a_d_pending d.pending.length c_d_pending), (Value.int .i64 d.left), (Value.bool d.stopped)].toArray 25)] 0)
          replace ch71 := ch71.trans (Step.drop _ _ [(some b78, Obj.cells [(Value.int .i64 xi60.2.at_), (Value.slice a_y77_data xi60.2.data.length c_y77_data)].toArray 73), (some b16, Obj.cells [(Value.int .i64 0)].toArray 28), (some b11, Obj.cells [(Value.slice a_y48 v_2.length c_y48)].toArray 41), (some b6, Obj.cells [(Value.int .i64 at_)].toArray 3), (some b1, Obj.cells [(Value.slice a_d_sectors d.sectors.length c_d_sectors), (Value.slice a_d_pending d.pending.length c_d_pending), (Value.int .i64 d.left), (Value.bool d.stopped)].toArray 25)] 0)
          clear hs90
          exact hN92 (v_2, a_y48, c_y48) _ _ hs102 ch71 f_y48 (jnE1 hsf70 hm)
      ·
        rintro D103 ⟨v_2, a_y48, c_y48⟩ w104 hs105 hst106 f_y48 hm
        replace hs105 : St ⟨w, [], (D103 :: [])⟩ (D103 :: O) w104 [(some b16, Obj.cells [(Value.int .i64 0)].toArray 28), (some b11, Obj.cells [(Value.slice a_y48 v_2.length c_y48)].toArray 41), (some b6, Obj.cells [(Value.int .i64 at_)].toArray 3), (some b1, Obj.cells [(Value.slice a_d_sectors d.sectors.length c_d_sectors), (Value.slice a_d_pending d.pending.length c_d_pending), (Value.int .i64 d.left), (Value.bool d.stopped)].toArray 25)] := hs105
        replace hst106 : Step (ks [(some b16, Obj.cells [(Value.int .i64 0)].toArray 28), (some b11, Obj.cells [(Value.slice none 0 0)].toArray 41), (some b6, Obj.cells [(Value.int .i64 at_)].toArray 3), (some b1, Obj.cells [(Value.slice a_d_sectors d.sectors.length c_d_sectors), (Value.slice a_d_pending d.pending.length c_d_pending), (Value.int .i64 d.left), (Value.bool d.stopped)].toArray 25)] O) w42 (ks [(some b16, Obj.cells [(Value.int .i64 0)].toArray 28), (some b11, Obj.cells [(Value.slice a_y48 v_2.length c_y48)].toArray 41), (some b6, Obj.cells [(Value.int .i64 at_)].toArray 3), (some b1, Obj.cells [(Value.slice a_d_sectors d.sectors.length c_d_sectors), (Value.slice a_d_pending d.pending.length c_d_pending), (Value.int .i64 d.left), (Value.bool d.stopped)].toArray 25)] (D103 :: O)) w104 := hst106
        replace f_y48 : SlR rU8 w104 (ks [(some b16, Obj.cells [(Value.int .i64 0)].toArray 28), (some b11, Obj.cells [(Value.slice a_y48 v_2.length c_y48)].toArray 41), (some b6, Obj.cells [(Value.int .i64 at_)].toArray 3), (some b1, Obj.cells [(Value.slice a_d_sectors d.sectors.length c_d_sectors), (Value.slice a_d_pending d.pending.length c_d_pending), (Value.int .i64 d.left), (Value.bool d.stopped)].toArray 25)] (D103 :: O)) a_y48 c_y48 v_2 := f_y48
        replace hm := rng1_z (show rng1 _ _ [] v_2 = some _ from hm)
        replace hm := jnE1 hk50 (show k49 v_2 = some _ from hm)
        replace f_d_sectors := f_d_sectors.step hst106
        replace f_d_pending := f_d_pending.step hst106
        replace F_y47 := F_y47.step hst106
        clear hst106 hs45
        refine Wp_seq ?_
        clear F_y47
        refine Wp_region ?_  -- 7 disk.go:54
        refine Rg_op rfl (op_fieldAddr ty25 rfl ty22 (by decide) rfl (rfl : _ = (⟨_, 0, none⟩ : Addr)) ?_)
        refine Rg_op rfl (op_load (cs := [(Value.slice a_d_sectors d.sectors.length c_d_sectors), (Value.slice a_d_pending d.pending.length c_d_pending), (Value.int .i64 d.left), (Value.bool d.stopped)]) (i := 3) ty22 hs105 rfl rfl rfl ?_)
        refine Rg_op rfl (op_load (cs := [(Value.int .i64 at_)]) (i := 2) ty3 hs105 rfl rfl rfl ?_)
        replace hm := ck_some hm; obtain ⟨hc108, hm⟩ := hm
        refine Rg_op rfl (op_indexAddr (q := (rSl rU8)) ty22 ty41 rfl rfl f_d_sectors rfl hc108.1 hc108.2 ?_)
        intro p109 f110
        refine Rg_op rfl (op_loadP ty41 rfl f110 rfl ?_)
        intro v111 h112
        obtain ⟨a_y113, c_y113, rfl, f_y113⟩ := un_sl h112
        refine Rg_op_ (op_store (cs := [(Value.slice a_y48 v_2.length c_y48)]) (vs := [(Value.slice a_y113 (d.sectors.getD at_.toNat default).length c_y113)]) (cs' := [(Value.slice a_y113 (d.sectors.getD at_.toNat default).length c_y113)]) (bs' := [(some b16, Obj.cells [(Value.int .i64 0)].toArray 28), (some b11, Obj.cells [(Value.slice a_y113 (d.sectors.getD at_.toNat default).length c_y113)].toArray 41), (some b6, Obj.cells [(Value.int .i64 at_)].toArray 3), (some b1, Obj.cells [(Value.slice a_d_sectors d.sectors.length c_d_sectors), (Value.slice a_d_pending d.pending.length c_d_pending), (Value.int .i64 d.left), (Value.bool d.stopped)].toArray 25)]) (i := 1) ty41 hs105 rfl rfl rfl rfl rfl (le_lit rfl) rfl rfl rfl ?_)
        intro w114 p115 hs116
        replace f_d_sectors := f_d_sectors.step p115
        replace f_d_pending := f_d_pending.step p115
        replace f_y48 := f_y48.step p115
        replace f110 := f110.step p115
        replace f_y113 := f_y113.step p115
        clear p115 hs105
        refine Rg_op_ (op_store (cs := [(Value.int .i64 0)]) (vs := [(Value.int .i64 0)]) (cs' := [(Value.int .i64 0)]) (bs' := [(some b16, Obj.cells [(Value.int .i64 0)].toArray 28), (some b11, Obj.cells [(Value.slice a_y113 (d.sectors.getD at_.toNat default).length c_y113)].toArray 41), (some b6, Obj.cells [(Value.int .i64 at_)].toArray 3), (some b1, Obj.cells [(Value.slice a_d_sectors d.sectors.length c_d_sectors), (Value.slice a_d_pending d.pending.length c_d_pending), (Value.int .i64 d.left), (Value.bool d.stopped)].toArray 25)]) (i := 0) ty28 hs116 rfl rfl rfl rfl rfl (le_lit rfl) rfl rfl rfl ?_)
        intro w117 p118 hs119
        replace f_d_sectors := f_d_sectors.step p118
        replace f_d_pending := f_d_pending.step p118
        replace f_y48 := f_y48.step p118
        replace f110 := f110.step p118
        replace f_y113 := f_y113.step p118
        clear p118 hs116
        refine Rg_nil ?_
        refine Wp_ret ?_
        obtain ⟨w120, hcl121, hs122, p123⟩ := St.close hs119
        replace f_d_sectors := f_d_sectors.step p123
        replace f_d_pending := f_d_pending.step p123
        replace f_y48 := f_y48.step p123
        replace f110 := f110.step p123
        replace f_y113 := f_y113.step p123
        clear p123 hs119
        have hz := (step_all hs122).trans (Step.sub (O' := O) (fun k hk => by simp [hk]))
        replace f_d_sectors := f_d_sectors.step hz
        replace f_d_pending := f_d_pending.step hz
        replace f_y48 := f_y48.step hz
        replace f110 := f110.step hz
        replace f_y113 := f_y113.step hz
        refine ⟨_, hcl121, [(Value.slice a_y113 (d.sectors.getD at_.toNat default).length c_y113), (Value.int .i64 0)], ⟨res1 (cs := [(Value.slice a_y113 (d.sectors.getD at_.toNat default).length c_y113)]) ty41 (i := 1) hs122 rfl rfl rfl, res1 (cs := [(Value.int .i64 0)]) ty28 (i := 0) hs122 rfl rfl rfl, trivial⟩, hs122.ext, ?_⟩
        exact Vr.eq (a := (vT2 (vC (rSl rU8)) (vI .i64))) (x := ((d.sectors.getD at_.toNat default), 0)) (mkT2 (mkC (mk_sl f_y113)) ⟨rfl, (show InK .i64 0 from by decide)⟩) (Option.some.inj hm)
      ·
        rintro e129 D124 ⟨v_2, a_y48, c_y48⟩ w125 he128 hs126 hst127 f_y48 hm
        simp only [List.mem_cons, List.not_mem_nil, or_false] at he128
        subst he128
        replace hs126 : St ⟨w, [], (D124 :: [])⟩ (D124 :: O) w125 [(some b16, Obj.cells [(Value.int .i64 0)].toArray 28), (some b11, Obj.cells [(Value.slice a_y48 v_2.length c_y48)].toArray 41), (some b6, Obj.cells [(Value.int .i64 at_)].toArray 3), (some b1, Obj.cells [(Value.slice a_d_sectors d.sectors.length c_d_sectors), (Value.slice a_d_pending d.pending.length c_d_pending), (Value.int .i64 d.left), (Value.bool d.stopped)].toArray 25)] := hs126
        replace hst127 : Step (ks [(some b16, Obj.cells [(Value.int .i64 0)].toArray 28), (some b11, Obj.cells [(Value.slice none 0 0)].toArray 41), (some b6, Obj.cells [(Value.int .i64 at_)].toArray 3), (some b1, Obj.cells [(Value.slice a_d_sectors d.sectors.length c_d_sectors), (Value.slice a_d_pending d.pending.length c_d_pending), (Value.int .i64 d.left), (Value.bool d.stopped)].toArray 25)] O) w42 (ks [(some b16, Obj.cells [(Value.int .i64 0)].toArray 28), (some b11, Obj.cells [(Value.slice a_y48 v_2.length c_y48)].toArray 41), (some b6, Obj.cells [(Value.int .i64 at_)].toArray 3), (some b1, Obj.cells [(Value.slice a_d_sectors d.sectors.length c_d_sectors), (Value.slice a_d_pending d.pending.length c_d_pending), (Value.int .i64 d.left), (Value.bool d.stopped)].toArray 25)] (D124 :: O)) w125 := hst127
        replace f_y48 : SlR rU8 w125 (ks [(some b16, Obj.cells [(Value.int .i64 0)].toArray 28), (some b11, Obj.cells [(Value.slice a_y48 v_2.length c_y48)].toArray 41), (some b6, Obj.cells [(Value.int .i64 at_)].toArray 3), (some b1, Obj.cells [(Value.slice a_d_sectors d.sectors.length c_d_sectors), (Value.slice a_d_pending d.pending.length c_d_pending), (Value.int .i64 d.left), (Value.bool d.stopped)].toArray 25)] (D124 :: O)) a_y48 c_y48 v_2 := f_y48
        replace hm := jnE1 hk52 (show k51 v_2 = some _ from hm)
        replace f_d_sectors := f_d_sectors.step hst127
        replace f_d_pending := f_d_pending.step hst127
        replace F_y47 := F_y47.step hst127
        clear hst127 hs45
        obtain ⟨w130, hcl131, hs132, p133⟩ := St.close hs126
        replace f_d_sectors := f_d_sectors.step p133
        replace f_d_pending := f_d_pending.step p133
        replace F_y47 := F_y47.step p133
        replace f_y48 := f_y48.step p133
        clear p133 hs126
        have hz := (step_all hs132).trans (Step.sub (O' := O) (fun k hk => by simp [hk]))
        replace f_d_sectors := f_d_sectors.step hz
        replace f_d_pending := f_d_pending.step hz
        replace F_y47 := F_y47.step hz
        replace f_y48 := f_y48.step hz
        refine ⟨_, hcl131, [(Value.slice a_y48 v_2.length c_y48), (Value.int .i64 0)], ⟨res1 (cs := [(Value.slice a_y48 v_2.length c_y48)]) ty41 (i := 1) hs132 rfl rfl rfl, res1 (cs := [(Value.int .i64 0)]) ty28 (i := 0) hs132 rfl rfl rfl, trivial⟩, hs132.ext, ?_⟩
        exact Vr.eq (a := (vT2 (vC (rSl rU8)) (vI .i64))) (x := (v_2, 0)) (mkT2 (mkC (mk_sl f_y48)) ⟨rfl, (show InK .i64 0 from by decide)⟩) (Option.some.inj hm)
  ·
    intro K25 hK25
    have ch134 := Step.refl (ks [(some b16, Obj.cells [(Value.int .i64 0)].toArray 28), (some b11, Obj.cells [(Value.slice none 0 0)].toArray 41), (some b6, Obj.cells [(Value.int .i64 at_)].toArray 3), (some b1, Obj.cells [(Value.slice a_d_sectors d.sectors.length c_d_sectors), (Value.slice a_d_pending d.pending.length c_d_pending), (Value.int .i64 d.left), (Value.bool d.stopped)].toArray 25)] O) w17
    refine Wp_region ?_  -- 1 disk.go:46
    refine Rg_op rfl (op_loadA (cs := [(Value.slice a_d_sectors d.sectors.length c_d_sectors), (Value.slice a_d_pending d.pending.length c_d_pending), (Value.int .i64 d.left), (Value.bool d.stopped)]) (vs := [(Value.slice a_d_sectors d.sectors.length c_d_sectors), (Value.slice a_d_pending d.pending.length c_d_pending), (Value.int .i64 d.left), (Value.bool d.stopped)]) (i := 3) ty25 hs19 rfl rfl rfl rfl ?_)
    replace hm := bd hm; obtain ⟨runs_1, hv135, hm⟩ := hm
    refine Rg_op rfl (op_call Try.call47 (c47_disk_runs (d := d) hs19.ltw f_d_sectors f_d_pending r_d_left hv135) rfl ?_)
    rintro v136 w137 ⟨hx138, h139⟩
    have hs140 := hs19.call hx138
    have p141 := Step.ext (O := ks [(some b16, Obj.cells [(Value.int .i64 0)].toArray 28), (some b11, Obj.cells [(Value.slice none 0 0)].toArray 41), (some b6, Obj.cells [(Value.int .i64 at_)].toArray 3), (some b1, Obj.cells [(Value.slice a_d_sectors d.sectors.length c_d_sectors), (Value.slice a_d_pending d.pending.length c_d_pending), (Value.int .i64 d.left), (Value.bool d.stopped)].toArray 25)] O) hx138
    clear hx138
    replace f_d_sectors := f_d_sectors.step p141
    replace f_d_pending := f_d_pending.step p141
    replace ch134 := ch134.trans p141
    clear p141 hs19
    obtain rfl := h139
    refine Rg_op rfl (op_not rfl ?_)
    refine Rg_op rfl (op_move (v := (Value.bool (!runs_1))) rfl ?_)
    refine Rg_case (fun hg143 => ?_) (fun hg143 => ?_)
    ·
      replace hm := bif_t hm hg143
      refine Rg_opx rfl (asB_ne rfl rfl) rfl ?_
      refine Rg_opx rfl (asB_ne rfl rfl) rfl ?_
      refine Rg_opx rfl (asB_ne rfl rfl) rfl ?_
      refine Rg_opx rfl (asB_ne rfl rfl) rfl ?_
      refine Rg_op rfl (op_pick_t (v := (Value.bool true)) rfl rfl ?_)
      refine Rg_nil ?_
      exact hK25 _ _ ⟨true, _, rfl, ⟨(by repeat (first | with_reducible exact Out.refl _ _ | refine Out.upd ?_ rfl | refine Out.updL ?_ rfl | refine Out.mix' ?_ rfl | exact Out.refl _ _)), rfl, rfl, trivial⟩, ch134, hs140, hm⟩
    ·
      replace hm := bif_f hm hg143
      refine Rg_opg rfl rfl rfl (op_loadA (cs := [(Value.slice a_d_sectors d.sectors.length c_d_sectors), (Value.slice a_d_pending d.pending.length c_d_pending), (Value.int .i64 d.left), (Value.bool d.stopped)]) (vs := [(Value.slice a_d_sectors d.sectors.length c_d_sectors), (Value.slice a_d_pending d.pending.length c_d_pending), (Value.int .i64 d.left), (Value.bool d.stopped)]) (i := 3) ty25 hs140 rfl rfl rfl rfl ?_)
      refine Rg_opg rfl rfl rfl (op_load (cs := [(Value.int .i64 at_)]) (i := 2) ty3 hs140 rfl rfl rfl ?_)
      replace hm := bd hm; obtain ⟨has_1, hv144, hm⟩ := hm
      refine Rg_opg rfl rfl rfl (op_call Try.call48 (c48_disk_has (d := d) (at_ := at_) hs140.ltw f_d_sectors f_d_pending r_d_left r_at_ hv144) rfl ?_)
      rintro v145 w146 ⟨hx147, h148⟩
      have hs149 := hs140.call hx147
      have p150 := Step.ext (O := ks [(some b16, Obj.cells [(Value.int .i64 0)].toArray 28), (some b11, Obj.cells [(Value.slice none 0 0)].toArray 41), (some b6, Obj.cells [(Value.int .i64 at_)].toArray 3), (some b1, Obj.cells [(Value.slice a_d_sectors d.sectors.length c_d_sectors), (Value.slice a_d_pending d.pending.length c_d_pending), (Value.int .i64 d.left), (Value.bool d.stopped)].toArray 25)] O) hx147
      clear hx147
      replace f_d_sectors := f_d_sectors.step p150
      replace f_d_pending := f_d_pending.step p150
      replace ch134 := ch134.trans p150
      clear p150 hs140
      obtain rfl := h148
      refine Rg_opg rfl rfl rfl (op_not rfl ?_)
      refine Rg_op rfl (op_pick_f (v := (Value.bool (!has_1))) rfl rfl ?_)
      refine Rg_nil ?_
      exact hK25 _ _ ⟨(!has_1), _, rfl, ⟨(by repeat (first | with_reducible exact Out.refl _ _ | refine Out.upd ?_ rfl | refine Out.updL ?_ rfl | refine Out.mix' ?_ rfl | exact Out.refl _ _)), rfl, rfl, trivial⟩, ch134, hs149, hm⟩

end Go.Fx

