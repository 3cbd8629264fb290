/- For every number of sectors and every disk of a world of the row, the statement DiskNewSpec of chapter 44 holds (no further conditions). -/
import Derived.Test.YtegomkljijgjjaaNew4
import Derived.Test.YtegomkljijgjjaaRows
import Derived.WalkKit
import Derived.ShutString
set_option linter.unusedVariables false
set_option linter.unusedSimpArgs false
set_option maxRecDepth 100000
set_option maxHeartbeats 0
namespace Go.Fx
open Go Go.RowKit Go.Proofs
def m19_overflightref44_Check_B1 (d : XDisk) (sf41 : Int → Option Int) (i_2 : Int) : Option Int :=
  bif (decide (i_2 < (d.pending.length : Int))) then
    ck ((0 : Int) ≤ i_2 ∧ i_2 < (d.pending.length : Int)) <|
    jn (fun (v_2 : Bool) =>
      bif v_2 then
        some 440
      else
        sf41 (IntKind.wrap .i64 (i_2 + 1)))
    (fun k68 =>
      bif (decide (((d.pending.getD i_2.toNat default).at_) < 0)) then
        k68 true
      else
        bif (decide ((d.sectors.length : Int) ≤ ((d.pending.getD i_2.toNat default).at_))) then
          k68 true
        else
          k68 (decide ((((d.pending.getD i_2.toNat default).data).length : Int) ≠ 128)))
  else
    some 0

def m19_overflightref44_Check_B0 (d : XDisk) (sf21 : Int → Option Int) (i_1 : Int) : Option Int :=
  bif (decide (i_1 < (d.sectors.length : Int))) then
    ck ((0 : Int) ≤ i_1 ∧ i_1 < (d.sectors.length : Int)) <|
    bif (decide (((d.sectors.getD i_1.toNat default).length : Int) ≠ 128)) then
      some 440
    else
      sf21 (IntKind.wrap .i64 (i_1 + 1))
  else
    loop1 (m19_overflightref44_Check_B1 d) (((d.pending.length : Int) - 0).toNat + 1) 0

def m19_overflightref44_Check (d : XDisk) : Option Int :=
  jn (fun (v_1 : Bool) =>
    bif v_1 then
      some 440
    else
      loop1 (m19_overflightref44_Check_B0 d) (((d.sectors.length : Int) - 0).toNat + 1) 0)
  (fun k8 =>
    bif (decide ((d.sectors.length : Int) < 1)) then
      k8 true
    else
      bif (decide (4096 < (d.sectors.length : Int))) then
        k8 true
      else
        bif (decide (4096 < (d.pending.length : Int))) then
          k8 true
        else
          bif (decide (d.left < (-1))) then
            k8 true
          else
            k8 (decide (65536 < d.left)))

theorem c19_overflightref44_Check {w : World} {O : List Nat} {d : XDisk} {a_d_sectors : Option Addr} {c_d_sectors : Nat} {a_d_pending : Option Addr} {c_d_pending : Nat} (hO : ∀ k ∈ O, k < w.heap.size) (f_d_sectors : SlR (rSl rU8) w O a_d_sectors c_d_sectors d.sectors) (f_d_pending : SlR rXWrite w O a_d_pending c_d_pending d.pending) (r_d_left : InK .i64 d.left) {x : Int} (hm : m19_overflightref44_Check d = some x) :
    Ok Try.prog 19 [(Value.agg [(Value.slice a_d_sectors d.sectors.length c_d_sectors), (Value.slice a_d_pending d.pending.length c_d_pending), (Value.int .i64 d.left), (Value.bool d.stopped)].toArray)] w O (vI .i64) x := by
  unfold m19_overflightref44_Check at hm
  refine Fn_of_Wp (n := 71) (xs := [.tmp 2]) Try.func19 rfl Try.ntmps19 Try.results19 rfl ?_
  have hs := St.start hO
  refine Wp_seq ?_
  refine Wp_region ?_  -- 0 ref.go:7
  refine Rg_op rfl (op_box (cs := [(Value.slice a_d_sectors d.sectors.length c_d_sectors), (Value.slice a_d_pending d.pending.length c_d_pending), (Value.int .i64 d.left), (Value.bool d.stopped)]) hs rfl rfl ?_)
  intro b1 w2 _ p3 hs4
  replace f_d_sectors := f_d_sectors.step p3
  replace f_d_pending := f_d_pending.step p3
  clear p3
  refine Rg_op rfl (op_assign (v := (Value.int .i64 0)) rfl ?_)
  refine Rg_nil ?_
  refine Wp_seq ?_
  refine Wp_region ?_  -- 1 ref.go:8
  refine Rg_op rfl (op_fieldAddr ty25 rfl ty22 (by decide) rfl (rfl : _ = (⟨_, 0, none⟩ : Addr)) ?_)
  refine Rg_op rfl (op_load (cs := [(Value.slice a_d_sectors d.sectors.length c_d_sectors), (Value.slice a_d_pending d.pending.length c_d_pending), (Value.int .i64 d.left), (Value.bool d.stopped)]) (i := 0) ty22 hs4 rfl rfl rfl ?_)
  refine Rg_op rfl (op_len Try.underlying22 rfl ?_)
  refine Rg_op rfl (op_assign (v := (Value.int .i64 (d.sectors.length : Int))) rfl ?_)
  refine Rg_nil ?_
  refine Wp_seq ?_
  refine Wp_reset [] [(1, (Value.pointer (some ⟨b1, 0, none⟩))), (3, (Value.int .i64 (d.sectors.length : Int)))] rfl ⟨rfl, rfl, trivial⟩ fun ξ6 => ?_
  replace hm := jn_elim hm; obtain ⟨k8, hk9, hm⟩ := hm
  refine Wp_seqJ [10, 11, 12, 13, 14, 15, 16, 17, 18, 19, 20, 21, 22, 23, 24, 25, 26, 27, 28, 29, 30, 31] (fun fr w' => ∃ (v_1 : Bool) (Ebs : Ents), Ebs = [(some b1, Obj.cells [(Value.slice a_d_sectors d.sectors.length c_d_sectors), (Value.slice a_d_pending d.pending.length c_d_pending), (Value.int .i64 d.left), (Value.bool d.stopped)].toArray 25)] ∧ fr [] [(31, (Value.bool v_1))] ∧ Step (ks [(some b1, Obj.cells [(Value.slice a_d_sectors d.sectors.length c_d_sectors), (Value.slice a_d_pending d.pending.length c_d_pending), (Value.int .i64 d.left), (Value.bool d.stopped)].toArray 25)] O) w2 (ks Ebs O) w' ∧ St ⟨w, [], []⟩ O w' Ebs ∧ k8 v_1 = some x) ?_ ?_
  ·
    rintro ρ15 w11 ⟨v_1, Ebs, hEbs, hfr14, hst13, hs12, hm⟩
    replace hm := jnE1 hk9 hm
    subst hEbs; rw [hfr14.eq]; clear hfr14
    replace f_d_sectors := f_d_sectors.step hst13
    replace f_d_pending := f_d_pending.step hst13
    clear hst13 hs4
    refine Wp_cond rfl (fun hc16 => ?_) (fun hc16 => ?_)
    ·
      replace hm := bif_t hm hc16
      refine Wp_seq ?_
      obtain ⟨hs17, p18⟩ := hs12.sub (bs' := []) (.cons _ List.Sublist.slnil)
      clear f_d_sectors f_d_pending
      clear p18 hs12
      refine Wp_region ?_  -- 3 ref.go:10
      refine Rg_op rfl (op_assign (v := (Value.int .i64 440)) rfl ?_)
      refine Rg_nil ?_
      refine Wp_ret ?_
      have hz := step_all hs17
      refine ⟨_, (show Closes [] _ _ from rfl), [(Value.int .i64 440)], ⟨rfl, trivial⟩, hs17.ext, ?_⟩
      exact Vr.eq (a := (vI .i64)) (x := 440) ⟨rfl, (show InK .i64 440 from by decide)⟩ (Option.some.inj hm)
    ·
      replace hm := bif_f hm hc16
      refine Wp_skip ?_
      refine Wp_seq ?_
      refine Wp_seq ?_
      refine Wp_region ?_  -- 4 ref.go:12
      refine Rg_op rfl (op_assign (v := (Value.int .i64 0)) rfl ?_)
      refine Rg_nil ?_
      refine Wp_block ?_
      refine Wp_reset [] [(1, (Value.pointer (some ⟨b1, 0, none⟩))), (3, (Value.int .i64 (d.sectors.length : Int))), (4, (Value.int .i64 0))] rfl ⟨rfl, rfl, rfl, trivial⟩ fun ξ20 => ?_
      refine Wp_loopM [2, 4, 32, 33, 34, 35, 36, 37, 38, 39, 40, 41, 42, 43] (fun m fr w' => ∃ (i_1 : Int) (Ebs : Ents), Ebs = [(some b1, Obj.cells [(Value.slice a_d_sectors d.sectors.length c_d_sectors), (Value.slice a_d_pending d.pending.length c_d_pending), (Value.int .i64 d.left), (Value.bool d.stopped)].toArray 25)] ∧ fr [] [(4, (Value.int .i64 i_1))] ∧ Step (ks [(some b1, Obj.cells [(Value.slice a_d_sectors d.sectors.length c_d_sectors), (Value.slice a_d_pending d.pending.length c_d_pending), (Value.int .i64 d.left), (Value.bool d.stopped)].toArray 25)] O) w11 (ks Ebs O) w' ∧ St ⟨w, [], []⟩ O w' Ebs ∧ InK .i64 i_1 ∧ loop1 (m19_overflightref44_Check_B0 d) m i_1 = some x) (((d.sectors.length : Int) - 0).toNat + 1) ⟨0, _, rfl, ⟨Out.refl _ _, rfl, rfl, trivial⟩, Step.refl _ _, hs12, (show InK .i64 0 from by decide), hm⟩ ?_ ?_
      · rintro _ _ ⟨_, _, _, _, _, _, _, hm⟩; exact loop1_z hm
      · rintro m24 K23 hK23 ρ29 w25 ⟨i_1, Ebs, hEbs, hfr28, hst27, hs26, r_y19, hm⟩
        obtain ⟨sf21, hsf22, hm⟩ := loop1_s hm; unfold m19_overflightref44_Check_B0 at hm
        subst hEbs; rw [hfr28.eq]; clear hfr28
        replace f_d_sectors := f_d_sectors.step hst27
        replace f_d_pending := f_d_pending.step hst27
        have ch30 := hst27
        refine Wp_seq ?_
        refine Wp_seq ?_
        refine Wp_region ?_  -- 5 ref.go:12
        refine Rg_op rfl (op_move (v := (Value.int .i64 i_1)) rfl ?_)
        refine Rg_op rfl (op_move (v := (Value.int .i64 (d.sectors.length : Int))) rfl ?_)
        refine Rg_op rfl (op_lss rfl rfl ?_)
        refine Rg_nil ?_
        refine Wp_cond rfl (fun hc31 => ?_) (fun hc31 => ?_)
        ·
          replace hm := bif_t hm hc31
          refine Wp_skip ?_
          refine Wp_seq ?_
          refine Wp_block ?_
          refine Wp_seq ?_
          refine Wp_region ?_  -- 7 ref.go:13
          refine Rg_op rfl (op_fieldAddr ty25 rfl ty22 (by decide) rfl (rfl : _ = (⟨_, 0, none⟩ : Addr)) ?_)
          refine Rg_op rfl (op_load (cs := [(Value.slice a_d_sectors d.sectors.length c_d_sectors), (Value.slice a_d_pending d.pending.length c_d_pending), (Value.int .i64 d.left), (Value.bool d.stopped)]) (i := 0) ty22 hs26 rfl rfl rfl ?_)
          refine Rg_op rfl (op_move (v := (Value.int .i64 i_1)) rfl ?_)
          replace hm := ck_some hm; obtain ⟨hc32, hm⟩ := hm
          refine Rg_op rfl (op_indexAddr (q := (rSl rU8)) ty22 ty41 rfl rfl f_d_sectors rfl hc32.1 hc32.2 ?_)
          intro p33 f34
          refine Rg_op rfl (op_loadP ty41 rfl f34 rfl ?_)
          intro v35 h36
          obtain ⟨a_y37, c_y37, rfl, f_y37⟩ := un_sl h36
          refine Rg_op rfl (op_len Try.underlying41 rfl ?_)
          refine Rg_op rfl (op_neq rfl rfl ?_)
          refine Rg_nil ?_
          refine Wp_cond rfl (fun hc38 => ?_) (fun hc38 => ?_)
          ·
            replace hm := bif_t hm hc38
            refine Wp_seq ?_
            clear f34 f_y37
            refine Wp_region ?_  -- 8 ref.go:14
            refine Rg_op rfl (op_assign (v := (Value.int .i64 440)) rfl ?_)
            refine Rg_nil ?_
            refine Wp_ret ?_
            have hz := step_all hs26
            replace f_d_sectors := f_d_sectors.step hz
            replace f_d_pending := f_d_pending.step hz
            refine ⟨_, (show Closes [] _ _ from rfl), [(Value.int .i64 440)], ⟨rfl, trivial⟩, hs26.ext, ?_⟩
            exact Vr.eq (a := (vI .i64)) (x := 440) ⟨rfl, (show InK .i64 440 from by decide)⟩ (Option.some.inj hm)
          ·
            replace hm := bif_f hm hc38
            refine Wp_skip ?_
            clear f34 f_y37
            refine Wp_region ?_  -- 6 ref.go:12
            refine Rg_op rfl (op_move (v := (Value.int .i64 i_1)) rfl ?_)
            refine Rg_op rfl (op_addw rfl rfl ?_)
            refine Rg_op rfl (op_assign (v := (Value.int .i64 (IntKind.wrap .i64 (i_1 + 1)))) rfl ?_)
            refine Rg_nil ?_
            exact hK23 _ _ ⟨(IntKind.wrap .i64 (i_1 + 1)), _, rfl, ⟨(by repeat (first | with_reducible exact Out.refl _ _ | refine Out.upd ?_ rfl | refine Out.updL ?_ rfl | refine Out.mix' ?_ rfl | exact Out.refl _ _)), rfl, rfl, trivial⟩, ch30, hs26, (inK_wrap .i64 _), jnE1 hsf22 hm⟩
        ·
          replace hm := bif_f hm hc31
          refine Wp_exit ?_
          refine Wp_seq ?_
          refine Wp_seq ?_
          refine Wp_region ?_  -- 9 ref.go:17
          refine Rg_op rfl (op_assign (v := (Value.int .i64 0)) rfl ?_)
          refine Rg_nil ?_
          refine Wp_block ?_
          refine Wp_reset [] [(1, (Value.pointer (some ⟨b1, 0, none⟩))), (3, (Value.int .i64 (d.sectors.length : Int))), (5, (Value.int .i64 0))] rfl ⟨rfl, rfl, rfl, trivial⟩ fun ξ40 => ?_
          refine Wp_loopM [2, 5, 6, 44, 45, 46, 47, 48, 49, 50, 51, 52, 53, 54, 55, 56, 57, 58, 59, 60, 61, 62, 63, 64, 65, 66, 67, 68, 69, 70] (fun m fr w' => ∃ (i_2 : Int) (Ebs : Ents), Ebs = [(some b1, Obj.cells [(Value.slice a_d_sectors d.sectors.length c_d_sectors), (Value.slice a_d_pending d.pending.length c_d_pending), (Value.int .i64 d.left), (Value.bool d.stopped)].toArray 25)] ∧ fr [] [(5, (Value.int .i64 i_2))] ∧ Step (ks [(some b1, Obj.cells [(Value.slice a_d_sectors d.sectors.length c_d_sectors), (Value.slice a_d_pending d.pending.length c_d_pending), (Value.int .i64 d.left), (Value.bool d.stopped)].toArray 25)] O) w25 (ks Ebs O) w' ∧ St ⟨w, [], []⟩ O w' Ebs ∧ InK .i64 i_2 ∧ loop1 (m19_overflightref44_Check_B1 d) m i_2 = some x) (((d.pending.length : Int) - 0).toNat + 1) ⟨0, _, rfl, ⟨Out.refl _ _, rfl, rfl, trivial⟩, Step.refl _ _, hs26, (show InK .i64 0 from by decide), hm⟩ ?_ ?_
          · rintro _ _ ⟨_, _, _, _, _, _, _, hm⟩; exact loop1_z hm
          · rintro m44 K43 hK43 ρ49 w45 ⟨i_2, Ebs, hEbs, hfr48, hst47, hs46, r_y39, hm⟩
            obtain ⟨sf41, hsf42, hm⟩ := loop1_s hm; unfold m19_overflightref44_Check_B1 at hm
            subst hEbs; rw [hfr48.eq]; clear hfr48
            replace f_d_sectors := f_d_sectors.step hst47
            replace f_d_pending := f_d_pending.step hst47
            replace ch30 := ch30.trans hst47
            have ch50 := hst47
            refine Wp_seq ?_
            refine Wp_seq ?_
            refine Wp_region ?_  -- 10 ref.go:17
            refine Rg_op rfl (op_move (v := (Value.int .i64 i_2)) rfl ?_)
            refine Rg_op rfl (op_fieldAddr ty25 rfl ty23 (by decide) rfl (rfl : _ = (⟨_, 1, none⟩ : Addr)) ?_)
            refine Rg_op rfl (op_load (cs := [(Value.slice a_d_sectors d.sectors.length c_d_sectors), (Value.slice a_d_pending d.pending.length c_d_pending), (Value.int .i64 d.left), (Value.bool d.stopped)]) (i := 0) ty23 hs46 rfl rfl rfl ?_)
            refine Rg_op rfl (op_len Try.underlying23 rfl ?_)
            refine Rg_op rfl (op_lss rfl rfl ?_)
            refine Rg_nil ?_
            refine Wp_cond rfl (fun hc51 => ?_) (fun hc51 => ?_)
            ·
              replace hm := bif_t hm hc51
              refine Wp_skip ?_
              refine Wp_seq ?_
              refine Wp_block ?_
              refine Wp_seq ?_
              refine Wp_region ?_  -- 12 ref.go:18
              refine Rg_op rfl (op_fieldAddr ty25 rfl ty23 (by decide) rfl (rfl : _ = (⟨_, 1, none⟩ : Addr)) ?_)
              refine Rg_op rfl (op_load (cs := [(Value.slice a_d_sectors d.sectors.length c_d_sectors), (Value.slice a_d_pending d.pending.length c_d_pending), (Value.int .i64 d.left), (Value.bool d.stopped)]) (i := 0) ty23 hs46 rfl rfl rfl ?_)
              refine Rg_op rfl (op_move (v := (Value.int .i64 i_2)) rfl ?_)
              replace hm := ck_some hm; obtain ⟨hc52, hm⟩ := hm
              refine Rg_op rfl (op_indexAddr (q := rXWrite) ty23 ty73 rfl rfl f_d_pending rfl hc52.1 hc52.2 ?_)
              intro p53 f54
              refine Rg_op rfl (op_loadPA ty73 rfl f54 rfl ?_)
              intro vs55 h56
              obtain ⟨_, _, rfl, ⟨rfl, r_y57_at_⟩, ⟨a_y57_data, c_y57_data, rfl, f_y57_data⟩⟩ := h56
              refine Rg_op rfl (op_alloc ty73 hs46 ?_)
              intro b58 w59 _ p60 hs61
              replace f_d_sectors := f_d_sectors.step p60
              replace f_d_pending := f_d_pending.step p60
              replace f54 := f54.step p60
              replace f_y57_data := f_y57_data.step p60
              replace ch30 := ch30.trans p60
              replace ch50 := ch50.trans p60
              clear p60 hs46
              refine Rg_op_ (op_store (cs := [(Value.int .i64 0), (Value.slice none 0 0)]) (vs := [(Value.int .i64 ((d.pending.getD i_2.toNat default).at_)), (Value.slice a_y57_data ((d.pending.getD i_2.toNat default).data).length c_y57_data)]) (cs' := [(Value.int .i64 ((d.pending.getD i_2.toNat default).at_)), (Value.slice a_y57_data ((d.pending.getD i_2.toNat default).data).length c_y57_data)]) (bs' := [(some b58, Obj.cells [(Value.int .i64 ((d.pending.getD i_2.toNat default).at_)), (Value.slice a_y57_data ((d.pending.getD i_2.toNat default).data).length c_y57_data)].toArray 73), (some b1, Obj.cells [(Value.slice a_d_sectors d.sectors.length c_d_sectors), (Value.slice a_d_pending d.pending.length c_d_pending), (Value.int .i64 d.left), (Value.bool d.stopped)].toArray 25)]) (i := 0) ty73 hs61 rfl rfl rfl rfl rfl (le_lit rfl) rfl rfl rfl ?_)
              intro w63 p64 hs65
              replace f_d_sectors := f_d_sectors.step p64
              replace f_d_pending := f_d_pending.step p64
              replace f54 := f54.step p64
              replace f_y57_data := f_y57_data.step p64
              replace ch30 := ch30.trans p64
              replace ch50 := ch50.trans p64
              clear p64 hs61
              refine Rg_nil ?_
              refine Wp_reset2 [2, 5, 6, 44, 45, 46, 47, 48, 49, 50, 51, 52, 53, 54, 55, 56, 57, 58, 59, 60, 61, 62, 63, 64, 65, 66, 67, 68, 69, 70] [] (updL ⟨ξ40, []⟩ [(1, (Value.pointer (some ⟨b1, 0, none⟩))), (3, (Value.int .i64 (d.sectors.length : Int))), (5, (Value.int .i64 0))]) [(5, (Value.int .i64 i_2)), (6, (Value.pointer (some ⟨b58, 0, none⟩)))] (by repeat (first | with_reducible exact Out.refl _ _ | refine Out.upd ?_ rfl | refine Out.updL ?_ rfl | refine Out.mix' ?_ rfl | exact Out.refl _ _)) rfl ⟨rfl, rfl, trivial⟩ fun ξ66 => ?_
              replace hm := jn_elim hm; obtain ⟨k68, hk69, hm⟩ := hm
              refine Wp_seqJ [56, 57, 58, 59, 60, 61, 62, 63, 64, 65, 66, 67, 68, 69, 70] (fun fr w' => ∃ (v_2 : Bool) (Ebs : Ents), Ebs = [(some b58, Obj.cells [(Value.int .i64 ((d.pending.getD i_2.toNat default).at_)), (Value.slice a_y57_data ((d.pending.getD i_2.toNat default).data).length c_y57_data)].toArray 73), (some b1, Obj.cells [(Value.slice a_d_sectors d.sectors.length c_d_sectors), (Value.slice a_d_pending d.pending.length c_d_pending), (Value.int .i64 d.left), (Value.bool d.stopped)].toArray 25)] ∧ fr [] [(70, (Value.bool v_2))] ∧ Step (ks [(some b58, Obj.cells [(Value.int .i64 ((d.pending.getD i_2.toNat default).at_)), (Value.slice a_y57_data ((d.pending.getD i_2.toNat default).data).length c_y57_data)].toArray 73), (some b1, Obj.cells [(Value.slice a_d_sectors d.sectors.length c_d_sectors), (Value.slice a_d_pending d.pending.length c_d_pending), (Value.int .i64 d.left), (Value.bool d.stopped)].toArray 25)] O) w63 (ks Ebs O) w' ∧ St ⟨w, [], []⟩ O w' Ebs ∧ k68 v_2 = some x) ?_ ?_
              ·
                rintro ρ75 w71 ⟨v_2, Ebs, hEbs, hfr74, hst73, hs72, hm⟩
                replace hm := jnE1 hk69 hm
                subst hEbs; rw [hfr74.eq]; clear hfr74
                replace f_d_sectors := f_d_sectors.step hst73
                replace f_d_pending := f_d_pending.step hst73
                replace f54 := f54.step hst73
                replace f_y57_data := f_y57_data.step hst73
                replace ch30 := ch30.trans hst73
                replace ch50 := ch50.trans hst73
                clear hst73 hs65
                refine Wp_cond rfl (fun hc76 => ?_) (fun hc76 => ?_)
                ·
                  replace hm := bif_t hm hc76
                  refine Wp_seq ?_
                  clear f54
                  refine Wp_region ?_  -- 14 ref.go:20
                  refine Rg_op rfl (op_assign (v := (Value.int .i64 440)) rfl ?_)
                  refine Rg_nil ?_
                  refine Wp_ret ?_
                  have hz := step_all hs72
                  replace f_d_sectors := f_d_sectors.step hz
                  replace f_d_pending := f_d_pending.step hz
                  replace f_y57_data := f_y57_data.step hz
                  refine ⟨_, (show Closes [] _ _ from rfl), [(Value.int .i64 440)], ⟨rfl, trivial⟩, hs72.ext, ?_⟩
                  exact Vr.eq (a := (vI .i64)) (x := 440) ⟨rfl, (show InK .i64 440 from by decide)⟩ (Option.some.inj hm)
                ·
                  replace hm := bif_f hm hc76
                  refine Wp_skip ?_
                  clear f54
                  refine Wp_region ?_  -- 11 ref.go:17
                  refine Rg_op rfl (op_move (v := (Value.int .i64 i_2)) rfl ?_)
                  refine Rg_op rfl (op_addw rfl rfl ?_)
                  refine Rg_op rfl (op_assign (v := (Value.int .i64 (IntKind.wrap .i64 (i_2 + 1)))) rfl ?_)
                  refine Rg_nil ?_
                  have hs77 := hs72.drop 0
                  replace f_d_sectors := f_d_sectors.step (Step.drop _ _ [(some b58, Obj.cells [(Value.int .i64 ((d.pending.getD i_2.toNat default).at_)), (Value.slice a_y57_data ((d.pending.getD i_2.toNat default).data).length c_y57_data)].toArray 73), (some b1, Obj.cells [(Value.slice a_d_sectors d.sectors.length c_d_sectors), (Value.slice a_d_pending d.pending.length c_d_pending), (Value.int .i64 d.left), (Value.bool d.stopped)].toArray 25)] 0)
                  replace f_d_pending := f_d_pending.step (Step.drop _ _ [(some b58, Obj.cells [(Value.int .i64 ((d.pending.getD i_2.toNat default).at_)), (Value.slice a_y57_data ((d.pending.getD i_2.toNat default).data).length c_y57_data)].toArray 73), (some b1, Obj.cells [(Value.slice a_d_sectors d.sectors.length c_d_sectors), (Value.slice a_d_pending d.pending.length c_d_pending), (Value.int .i64 d.left), (Value.bool d.stopped)].toArray 25)] 0)
                  replace f_y57_data := f_y57_data.step (Step.drop _ _ [(some b58, Obj.cells [(Value.int .i64 ((d.pending.getD i_2.toNat default).at_)), (Value.slice a_y57_data ((d.pending.getD i_2.toNat default).data).length c_y57_data)].toArray 73), (some b1, Obj.cells [(Value.slice a_d_sectors d.sectors.length c_d_sectors), (Value.slice a_d_pending d.pending.length c_d_pending), (Value.int .i64 d.left), (Value.bool d.stopped)].toArray 25)] 0)
                  replace ch30 := ch30.trans (Step.drop _ _ [(some b58, Obj.cells [(Value.int .i64 ((d.pending.getD i_2.toNat default).at_)), (Value.slice a_y57_data ((d.pending.getD i_2.toNat default).data).length c_y57_data)].toArray 73), (some b1, Obj.cells [(Value.slice a_d_sectors d.sectors.length c_d_sectors), (Value.slice a_d_pending d.pending.length c_d_pending), (Value.int .i64 d.left), (Value.bool d.stopped)].toArray 25)] 0)
                  replace ch50 := ch50.trans (Step.drop _ _ [(some b58, Obj.cells [(Value.int .i64 ((d.pending.getD i_2.toNat default).at_)), (Value.slice a_y57_data ((d.pending.getD i_2.toNat default).data).length c_y57_data)].toArray 73), (some b1, Obj.cells [(Value.slice a_d_sectors d.sectors.length c_d_sectors), (Value.slice a_d_pending d.pending.length c_d_pending), (Value.int .i64 d.left), (Value.bool d.stopped)].toArray 25)] 0)
                  clear hs72
                  exact hK43 _ _ ⟨(IntKind.wrap .i64 (i_2 + 1)), _, rfl, ⟨(by repeat (first | with_reducible exact Out.refl _ _ | refine Out.upd ?_ rfl | refine Out.updL ?_ rfl | refine Out.mix' ?_ rfl | exact Out.refl _ _)), rfl, rfl, trivial⟩, ch50, hs77, (inK_wrap .i64 _), jnE1 hsf42 hm⟩
              ·
                intro K70 hK70
                have ch78 := Step.refl (ks [(some b58, Obj.cells [(Value.int .i64 ((d.pending.getD i_2.toNat default).at_)), (Value.slice a_y57_data ((d.pending.getD i_2.toNat default).data).length c_y57_data)].toArray 73), (some b1, Obj.cells [(Value.slice a_d_sectors d.sectors.length c_d_sectors), (Value.slice a_d_pending d.pending.length c_d_pending), (Value.int .i64 d.left), (Value.bool d.stopped)].toArray 25)] O) w63
                clear f54
                refine Wp_region ?_  -- 13 ref.go:19
                refine Rg_op rfl (op_fieldAddr ty73 rfl ty3 (by decide) rfl (rfl : _ = (⟨_, 0, none⟩ : Addr)) ?_)
                refine Rg_op rfl (op_load (cs := [(Value.int .i64 ((d.pending.getD i_2.toNat default).at_)), (Value.slice a_y57_data ((d.pending.getD i_2.toNat default).data).length c_y57_data)]) (i := 0) ty3 hs65 rfl rfl rfl ?_)
                refine Rg_op rfl (op_lss rfl rfl ?_)
                refine Rg_op rfl (op_move (v := (Value.bool (decide (((d.pending.getD i_2.toNat default).at_) < 0)))) rfl ?_)
                refine Rg_case (fun hg79 => ?_) (fun hg79 => ?_)
                ·
                  replace hm := bif_t hm hg79
                  refine Rg_opx rfl (asB_ne rfl rfl) rfl ?_
                  refine Rg_opx rfl (asB_ne rfl rfl) rfl ?_
                  refine Rg_opx rfl (asB_ne rfl rfl) rfl ?_
                  refine Rg_opx rfl (asB_ne rfl rfl) rfl ?_
                  refine Rg_op rfl (op_pick_t (v := (Value.bool true)) rfl rfl ?_)
                  refine Rg_op rfl (op_move (v := (Value.bool true)) rfl ?_)
                  refine Rg_opx rfl (asB_ne rfl rfl) rfl ?_
                  refine Rg_opx rfl (asB_ne rfl rfl) rfl ?_
                  refine Rg_opx rfl (asB_ne rfl rfl) rfl ?_
                  refine Rg_opx rfl (asB_ne rfl rfl) rfl ?_
                  refine Rg_op rfl (op_pick_t (v := (Value.bool true)) rfl rfl ?_)
                  refine Rg_nil ?_
                  exact hK70 _ _ ⟨true, _, rfl, ⟨(by repeat (first | with_reducible exact Out.refl _ _ | refine Out.upd ?_ rfl | refine Out.updL ?_ rfl | refine Out.mix' ?_ rfl | exact Out.refl _ _)), rfl, rfl, trivial⟩, ch78, hs65, hm⟩
                ·
                  replace hm := bif_f hm hg79
                  refine Rg_opg rfl rfl rfl (op_fieldAddr ty73 rfl ty3 (by decide) rfl (rfl : _ = (⟨_, 0, none⟩ : Addr)) ?_)
                  refine Rg_opg rfl rfl rfl (op_load (cs := [(Value.int .i64 ((d.pending.getD i_2.toNat default).at_)), (Value.slice a_y57_data ((d.pending.getD i_2.toNat default).data).length c_y57_data)]) (i := 0) ty3 hs65 rfl rfl rfl ?_)
                  refine Rg_opg rfl rfl rfl (op_move (v := (Value.int .i64 (d.sectors.length : Int))) rfl ?_)
                  refine Rg_opg rfl rfl rfl (op_geq rfl rfl ?_)
                  refine Rg_op rfl (op_pick_f (v := (Value.bool (decide ((d.sectors.length : Int) ≤ ((d.pending.getD i_2.toNat default).at_))))) rfl rfl ?_)
                  refine Rg_op rfl (op_move (v := (Value.bool (decide ((d.sectors.length : Int) ≤ ((d.pending.getD i_2.toNat default).at_))))) rfl ?_)
                  refine Rg_case (fun hg80 => ?_) (fun hg80 => ?_)
                  ·
                    replace hm := bif_t hm hg80
                    refine Rg_opx rfl (asB_ne rfl rfl) rfl ?_
                    refine Rg_opx rfl (asB_ne rfl rfl) rfl ?_
                    refine Rg_opx rfl (asB_ne rfl rfl) rfl ?_
                    refine Rg_opx rfl (asB_ne rfl rfl) rfl ?_
                    refine Rg_op rfl (op_pick_t (v := (Value.bool true)) rfl rfl ?_)
                    refine Rg_nil ?_
                    exact hK70 _ _ ⟨true, _, rfl, ⟨(by repeat (first | with_reducible exact Out.refl _ _ | refine Out.upd ?_ rfl | refine Out.updL ?_ rfl | refine Out.mix' ?_ rfl | exact Out.refl _ _)), rfl, rfl, trivial⟩, ch78, hs65, hm⟩
                  ·
                    replace hm := bif_f hm hg80
                    refine Rg_opg rfl rfl rfl (op_fieldAddr ty73 rfl ty41 (by decide) rfl (rfl : _ = (⟨_, 1, none⟩ : Addr)) ?_)
                    refine Rg_opg rfl rfl rfl (op_load (cs := [(Value.int .i64 ((d.pending.getD i_2.toNat default).at_)), (Value.slice a_y57_data ((d.pending.getD i_2.toNat default).data).length c_y57_data)]) (i := 0) ty41 hs65 rfl rfl rfl ?_)
                    refine Rg_opg rfl rfl rfl (op_len Try.underlying41 rfl ?_)
                    refine Rg_opg rfl rfl rfl (op_neq rfl rfl ?_)
                    refine Rg_op rfl (op_pick_f (v := (Value.bool (decide ((((d.pending.getD i_2.toNat default).data).length : Int) ≠ 128)))) rfl rfl ?_)
                    refine Rg_nil ?_
                    exact hK70 _ _ ⟨(decide ((((d.pending.getD i_2.toNat default).data).length : Int) ≠ 128)), _, rfl, ⟨(by repeat (first | with_reducible exact Out.refl _ _ | refine Out.upd ?_ rfl | refine Out.updL ?_ rfl | refine Out.mix' ?_ rfl | exact Out.refl _ _)), rfl, rfl, trivial⟩, ch78, hs65, hm⟩
            ·
              replace hm := bif_f hm hc51
              refine Wp_exit ?_
              refine Wp_seq ?_
              obtain ⟨hs81, p82⟩ := hs46.sub (bs' := []) (.cons _ List.Sublist.slnil)
              clear f_d_sectors f_d_pending
              replace ch30 := ch30.trans p82
              replace ch50 := ch50.trans p82
              clear p82 hs46
              refine Wp_region ?_  -- 15 ref.go:23
              refine Rg_op rfl (op_assign (v := (Value.int .i64 0)) rfl ?_)
              refine Rg_nil ?_
              refine Wp_ret ?_
              have hz := step_all hs81
              refine ⟨_, (show Closes [] _ _ from rfl), [(Value.int .i64 0)], ⟨rfl, trivial⟩, hs81.ext, ?_⟩
              exact Vr.eq (a := (vI .i64)) (x := 0) ⟨rfl, (show InK .i64 0 from by decide)⟩ (Option.some.inj hm)
  ·
    intro K10 hK10
    have ch83 := Step.refl (ks [(some b1, Obj.cells [(Value.slice a_d_sectors d.sectors.length c_d_sectors), (Value.slice a_d_pending d.pending.length c_d_pending), (Value.int .i64 d.left), (Value.bool d.stopped)].toArray 25)] O) w2
    refine Wp_region ?_  -- 2 ref.go:9
    refine Rg_op rfl (op_move (v := (Value.int .i64 (d.sectors.length : Int))) rfl ?_)
    refine Rg_op rfl (op_lss rfl rfl ?_)
    refine Rg_op rfl (op_move (v := (Value.bool (decide ((d.sectors.length : Int) < 1)))) rfl ?_)
    refine Rg_case (fun hg84 => ?_) (fun hg84 => ?_)
    ·
      replace hm := bif_t hm hg84
      refine Rg_opx rfl (asB_ne rfl rfl) rfl ?_
      refine Rg_opx rfl (asB_ne rfl rfl) rfl ?_
      refine Rg_op rfl (op_pick_t (v := (Value.bool true)) rfl rfl ?_)
      refine Rg_op rfl (op_move (v := (Value.bool true)) rfl ?_)
      refine Rg_opx rfl (asB_ne rfl rfl) rfl ?_
      refine Rg_opx rfl (asB_ne rfl rfl) rfl ?_
      refine Rg_opx rfl (asB_ne rfl rfl) rfl ?_
      refine Rg_opx rfl (asB_ne rfl rfl) rfl ?_
      refine Rg_op rfl (op_pick_t (v := (Value.bool true)) rfl rfl ?_)
      refine Rg_op rfl (op_move (v := (Value.bool true)) rfl ?_)
      refine Rg_opx rfl (asB_ne rfl rfl) rfl ?_
      refine Rg_opx rfl (asB_ne rfl rfl) rfl ?_
      refine Rg_opx rfl (asB_ne rfl rfl) rfl ?_
      refine Rg_op rfl (op_pick_t (v := (Value.bool true)) rfl rfl ?_)
      refine Rg_op rfl (op_move (v := (Value.bool true)) rfl ?_)
      refine Rg_opx rfl (asB_ne rfl rfl) rfl ?_
      refine Rg_opx rfl (asB_ne rfl rfl) rfl ?_
      refine Rg_opx rfl (asB_ne rfl rfl) rfl ?_
      refine Rg_op rfl (op_pick_t (v := (Value.bool true)) rfl rfl ?_)
      refine Rg_nil ?_
      exact hK10 _ _ ⟨true, _, rfl, ⟨(by repeat (first | with_reducible exact Out.refl _ _ | refine Out.upd ?_ rfl | refine Out.updL ?_ rfl | refine Out.mix' ?_ rfl | exact Out.refl _ _)), rfl, rfl, trivial⟩, ch83, hs4, hm⟩
    ·
      replace hm := bif_f hm hg84
      refine Rg_opg rfl rfl rfl (op_move (v := (Value.int .i64 (d.sectors.length : Int))) rfl ?_)
      refine Rg_opg rfl rfl rfl (op_gtr rfl rfl ?_)
      refine Rg_op rfl (op_pick_f (v := (Value.bool (decide (4096 < (d.sectors.length : Int))))) rfl rfl ?_)
      refine Rg_op rfl (op_move (v := (Value.bool (decide (4096 < (d.sectors.length : Int))))) rfl ?_)
      refine Rg_case (fun hg85 => ?_) (fun hg85 => ?_)
      ·
        replace hm := bif_t hm hg85
        refine Rg_opx rfl (asB_ne rfl rfl) rfl ?_
        refine Rg_opx rfl (asB_ne rfl rfl) rfl ?_
        refine Rg_opx rfl (asB_ne rfl rfl) rfl ?_
        refine Rg_opx rfl (asB_ne rfl rfl) rfl ?_
        refine Rg_op rfl (op_pick_t (v := (Value.bool true)) rfl rfl ?_)
        refine Rg_op rfl (op_move (v := (Value.bool true)) rfl ?_)
        refine Rg_opx rfl (asB_ne rfl rfl) rfl ?_
        refine Rg_opx rfl (asB_ne rfl rfl) rfl ?_
        refine Rg_opx rfl (asB_ne rfl rfl) rfl ?_
        refine Rg_op rfl (op_pick_t (v := (Value.bool true)) rfl rfl ?_)
        refine Rg_op rfl (op_move (v := (Value.bool true)) rfl ?_)
        refine Rg_opx rfl (asB_ne rfl rfl) rfl ?_
        refine Rg_opx rfl (asB_ne rfl rfl) rfl ?_
        refine Rg_opx rfl (asB_ne rfl rfl) rfl ?_
        refine Rg_op rfl (op_pick_t (v := (Value.bool true)) rfl rfl ?_)
        refine Rg_nil ?_
        exact hK10 _ _ ⟨true, _, rfl, ⟨(by repeat (first | with_reducible exact Out.refl _ _ | refine Out.upd ?_ rfl | refine Out.updL ?_ rfl | refine Out.mix' ?_ rfl | exact Out.refl _ _)), rfl, rfl, trivial⟩, ch83, hs4, hm⟩
      ·
        replace hm := bif_f hm hg85
        refine Rg_opg rfl rfl rfl (op_fieldAddr ty25 rfl ty23 (by decide) rfl (rfl : _ = (⟨_, 1, none⟩ : Addr)) ?_)
        refine Rg_opg rfl rfl rfl (op_load (cs := [(Value.slice a_d_sectors d.sectors.length c_d_sectors), (Value.slice a_d_pending d.pending.length c_d_pending), (Value.int .i64 d.left), (Value.bool d.stopped)]) (i := 0) ty23 hs4 rfl rfl rfl ?_)
        refine Rg_opg rfl rfl rfl (op_len Try.underlying23 rfl ?_)
        refine Rg_opg rfl rfl rfl (op_gtr rfl rfl ?_)
        refine Rg_op rfl (op_pick_f (v := (Value.bool (decide (4096 < (d.pending.length : Int))))) rfl rfl ?_)
        refine Rg_op rfl (op_move (v := (Value.bool (decide (4096 < (d.pending.length : Int))))) rfl ?_)
        refine Rg_case (fun hg86 => ?_) (fun hg86 => ?_)
        ·
          replace hm := bif_t hm hg86
          refine Rg_opx rfl (asB_ne rfl rfl) rfl ?_
          refine Rg_opx rfl (asB_ne rfl rfl) rfl ?_
          refine Rg_opx rfl (asB_ne rfl rfl) rfl ?_
          refine Rg_op rfl (op_pick_t (v := (Value.bool true)) rfl rfl ?_)
          refine Rg_op rfl (op_move (v := (Value.bool true)) rfl ?_)
          refine Rg_opx rfl (asB_ne rfl rfl) rfl ?_
          refine Rg_opx rfl (asB_ne rfl rfl) rfl ?_
          refine Rg_opx rfl (asB_ne rfl rfl) rfl ?_
          refine Rg_op rfl (op_pick_t (v := (Value.bool true)) rfl rfl ?_)
          refine Rg_nil ?_
          exact hK10 _ _ ⟨true, _, rfl, ⟨(by repeat (first | with_reducible exact Out.refl _ _ | refine Out.upd ?_ rfl | refine Out.updL ?_ rfl | refine Out.mix' ?_ rfl | exact Out.refl _ _)), rfl, rfl, trivial⟩, ch83, hs4, hm⟩
        ·
          replace hm := bif_f hm hg86
          refine Rg_opg rfl rfl rfl (op_fieldAddr ty25 rfl ty3 (by decide) rfl (rfl : _ = (⟨_, 2, none⟩ : Addr)) ?_)
          refine Rg_opg rfl rfl rfl (op_load (cs := [(Value.slice a_d_sectors d.sectors.length c_d_sectors), (Value.slice a_d_pending d.pending.length c_d_pending), (Value.int .i64 d.left), (Value.bool d.stopped)]) (i := 0) ty3 hs4 rfl rfl rfl ?_)
          refine Rg_opg rfl rfl rfl (op_lss rfl rfl ?_)
          refine Rg_op rfl (op_pick_f (v := (Value.bool (decide (d.left < (-1))))) rfl rfl ?_)
          refine Rg_op rfl (op_move (v := (Value.bool (decide (d.left < (-1))))) rfl ?_)
          refine Rg_case (fun hg87 => ?_) (fun hg87 => ?_)
          ·
            replace hm := bif_t hm hg87
            refine Rg_opx rfl (asB_ne rfl rfl) rfl ?_
            refine Rg_opx rfl (asB_ne rfl rfl) rfl ?_
            refine Rg_opx rfl (asB_ne rfl rfl) rfl ?_
            refine Rg_op rfl (op_pick_t (v := (Value.bool true)) rfl rfl ?_)
            refine Rg_nil ?_
            exact hK10 _ _ ⟨true, _, rfl, ⟨(by repeat (first | with_reducible exact Out.refl _ _ | refine Out.upd ?_ rfl | refine Out.updL ?_ rfl | refine Out.mix' ?_ rfl | exact Out.refl _ _)), rfl, rfl, trivial⟩, ch83, hs4, hm⟩
          ·
            replace hm := bif_f hm hg87
            refine Rg_opg rfl rfl rfl (op_fieldAddr ty25 rfl ty3 (by decide) rfl (rfl : _ = (⟨_, 2, none⟩ : Addr)) ?_)
            refine Rg_opg rfl rfl rfl (op_load (cs := [(Value.slice a_d_sectors d.sectors.length c_d_sectors), (Value.slice a_d_pending d.pending.length c_d_pending), (Value.int .i64 d.left), (Value.bool d.stopped)]) (i := 0) ty3 hs4 rfl rfl rfl ?_)
            refine Rg_opg rfl rfl rfl (op_gtr rfl rfl ?_)
            refine Rg_op rfl (op_pick_f (v := (Value.bool (decide (65536 < d.left)))) rfl rfl ?_)
            refine Rg_nil ?_
            exact hK10 _ _ ⟨(decide (65536 < d.left)), _, rfl, ⟨(by repeat (first | with_reducible exact Out.refl _ _ | refine Out.upd ?_ rfl | refine Out.updL ?_ rfl | refine Out.mix' ?_ rfl | exact Out.refl _ _)), rfl, rfl, trivial⟩, ch83, hs4, hm⟩

end Go.Fx


set_option linter.unusedVariables false
set_option linter.unusedSimpArgs false
set_option maxRecDepth 100000
set_option maxHeartbeats 0
namespace Go.Fx
open Go Go.RowKit Go.Proofs
def m21_overflightref44_Restart (d : XDisk) : Option XDisk :=
  some (⟨d.sectors, ([] : List XWrite), (-1), false⟩ : XDisk)

theorem c21_overflightref44_Restart {w : World} {O : List Nat} {d : XDisk} {a_d_sectors : Option Addr} {c_d_sectors : Nat} {a_d_pending : Option Addr} {c_d_pending : Nat} (hO : ∀ k ∈ O, k < w.heap.size) (f_d_sectors : SlR (rSl rU8) w O a_d_sectors c_d_sectors d.sectors) (f_d_pending : SlR rXWrite w O a_d_pending c_d_pending d.pending) (r_d_left : InK .i64 d.left) {x : XDisk} (hm : m21_overflightref44_Restart d = some x) :
    Ok Try.prog 21 [(Value.agg [(Value.slice a_d_sectors d.sectors.length c_d_sectors), (Value.slice a_d_pending d.pending.length c_d_pending), (Value.int .i64 d.left), (Value.bool d.stopped)].toArray)] w O (vA rXDisk) x := by
  unfold m21_overflightref44_Restart at hm
  refine Fn_of_Wp (n := 6) (xs := [.cell 2 25]) Try.func21 rfl Try.ntmps21 Try.results21 rfl ?_
  have hs := St.start hO
  refine Wp_seq ?_
  refine Wp_region ?_  -- 0 ref.go:111
  refine Rg_op rfl (op_box (cs := [(Value.slice a_d_sectors d.sectors.length c_d_sectors), (Value.slice a_d_pending d.pending.length c_d_pending), (Value.int .i64 d.left), (Value.bool d.stopped)]) hs rfl rfl ?_)
  intro b1 w2 _ p3 hs4
  replace f_d_sectors := f_d_sectors.step p3
  replace f_d_pending := f_d_pending.step p3
  clear p3
  refine Rg_op rfl (op_alloc ty25 hs4 ?_)
  intro b6 w7 _ p8 hs9
  replace f_d_sectors := f_d_sectors.step p8
  replace f_d_pending := f_d_pending.step p8
  clear p8 hs4
  refine Rg_nil ?_
  refine Wp_seq ?_
  refine Wp_region ?_  -- 1 ref.go:111
  refine Rg_op rfl (op_fieldAddr ty25 rfl ty22 (by decide) rfl (rfl : _ = (⟨_, 0, none⟩ : Addr)) ?_)
  refine Rg_op rfl (op_load (cs := [(Value.slice a_d_sectors d.sectors.length c_d_sectors), (Value.slice a_d_pending d.pending.length c_d_pending), (Value.int .i64 d.left), (Value.bool d.stopped)]) (i := 1) ty22 hs9 rfl rfl rfl ?_)
  refine Rg_op rfl (op_build (vs := [(Value.slice a_d_sectors d.sectors.length c_d_sectors), (Value.slice none 0 0), (Value.int .i64 (-1)), (Value.bool false)]) (parts := [(0, .tmp 4), (2, .const (.int .i64 (-1)))]) ty25 pl25 rfl ?_)
  refine Rg_op_ (op_store (cs := [(Value.slice none 0 0), (Value.slice none 0 0), (Value.int .i64 0), (Value.bool false)]) (vs := [(Value.slice a_d_sectors d.sectors.length c_d_sectors), (Value.slice none 0 0), (Value.int .i64 (-1)), (Value.bool false)]) (cs' := [(Value.slice a_d_sectors d.sectors.length c_d_sectors), (Value.slice none 0 0), (Value.int .i64 (-1)), (Value.bool false)]) (bs' := [(some b6, Obj.cells [(Value.slice a_d_sectors d.sectors.length c_d_sectors), (Value.slice none 0 0), (Value.int .i64 (-1)), (Value.bool false)].toArray 25), (some b1, Obj.cells [(Value.slice a_d_sectors d.sectors.length c_d_sectors), (Value.slice a_d_pending d.pending.length c_d_pending), (Value.int .i64 d.left), (Value.bool d.stopped)].toArray 25)]) (i := 0) ty25 hs9 rfl rfl rfl rfl rfl (le_lit rfl) rfl rfl rfl ?_)
  intro w11 p12 hs13
  replace f_d_sectors := f_d_sectors.step p12
  replace f_d_pending := f_d_pending.step p12
  clear p12 hs9
  refine Rg_nil ?_
  refine Wp_ret ?_
  have hz := step_all hs13
  replace f_d_sectors := f_d_sectors.step hz
  replace f_d_pending := f_d_pending.step hz
  refine ⟨_, (show Closes [] _ _ from rfl), [(Value.agg [(Value.slice a_d_sectors d.sectors.length c_d_sectors), (Value.slice none 0 0), (Value.int .i64 (-1)), (Value.bool false)].toArray)], ⟨resA (cs := [(Value.slice a_d_sectors d.sectors.length c_d_sectors), (Value.slice none 0 0), (Value.int .i64 (-1)), (Value.bool false)]) (vs := [(Value.slice a_d_sectors d.sectors.length c_d_sectors), (Value.slice none 0 0), (Value.int .i64 (-1)), (Value.bool false)]) ty25 (i := 0) hs13 rfl rfl rfl rfl, trivial⟩, hs13.ext, ?_⟩
  exact Vr.eq (a := (vA rXDisk)) (x := (⟨d.sectors, ([] : List XWrite), (-1), false⟩ : XDisk)) (mkA (mkVia (mk_pair (mk_sl f_d_sectors) (mk_pair (mk_sl SlR.nil_) (mk_pair (mk_int (show InK .i64 (-1) from by decide)) mkBool))))) (Option.some.inj hm)

end Go.Fx


set_option linter.unusedVariables false
set_option linter.unusedSimpArgs false
set_option maxRecDepth 100000
set_option maxHeartbeats 0
namespace Go.Fx
open Go Go.RowKit Go.Proofs
def m3_overflightlaw44_DiskNewSpec (sectors : Int) (d : XDisk) : Option Bool :=
  (m13_overflightlaw44_sane).bind fun sane_1 =>
  bif (!sane_1) then
    some false
  else
    jn (fun (v_1 : Bool) =>
      bif v_1 then
        some true
      else
        (m15_disk_New sectors).bind fun new_1 =>
        (m16_overflightref44_New sectors).bind fun new_2 =>
        jn (fun (v_2 : Bool) =>
          some v_2)
        (fun k74 =>
          (m17_overflightref44_Same new_1.1 new_2.1).bind fun same_1 =>
          bif same_1 then
            bif (decide (new_1.2 = new_2.2)) then
              (m18_disk_Check d).bind fun check_1 =>
              (m19_overflightref44_Check d).bind fun check_2 =>
              bif (decide (check_1 = check_2)) then
                (m20_disk_Restart d).bind fun restart_1 =>
                (m21_overflightref44_Restart d).bind fun restart_2 =>
                (m17_overflightref44_Same restart_1 restart_2).bind fun same_2 =>
                k74 same_2
              else
                k74 false
            else
              k74 false
          else
            k74 false))
    (fun k19 =>
      bif (decide (60 < sectors)) then
        bif (decide (sectors ≤ 4096)) then
          k19 true
        else
          (m14_overflightref44_Few d).bind fun few_1 =>
          k19 (!few_1)
      else
        (m14_overflightref44_Few d).bind fun few_2 =>
        k19 (!few_2))

theorem c3_overflightlaw44_DiskNewSpec {w : World} {O : List Nat} {sectors : Int} {d : XDisk} {a_d_sectors : Option Addr} {c_d_sectors : Nat} {a_d_pending : Option Addr} {c_d_pending : Nat} (hO : ∀ k ∈ O, k < w.heap.size) (r_sectors : InK .i64 sectors) (f_d_sectors : SlR (rSl rU8) w O a_d_sectors c_d_sectors d.sectors) (f_d_pending : SlR rXWrite w O a_d_pending c_d_pending d.pending) (r_d_left : InK .i64 d.left) {x : Bool} (hm : m3_overflightlaw44_DiskNewSpec sectors d = some x) :
    Ok Try.prog 3 [(Value.int .i64 sectors), (Value.agg [(Value.slice a_d_sectors d.sectors.length c_d_sectors), (Value.slice a_d_pending d.pending.length c_d_pending), (Value.int .i64 d.left), (Value.bool d.stopped)].toArray)] w O vB x := by
  unfold m3_overflightlaw44_DiskNewSpec at hm
  refine Fn_of_Wp (n := 54) (xs := [.tmp 4]) Try.func3 rfl Try.ntmps3 Try.results3 rfl ?_
  have hs := St.start hO
  refine Wp_seq ?_
  refine Wp_region ?_  -- 0 law.go:32
  refine Rg_op rfl (op_box (cs := [(Value.slice a_d_sectors d.sectors.length c_d_sectors), (Value.slice a_d_pending d.pending.length c_d_pending), (Value.int .i64 d.left), (Value.bool d.stopped)]) hs rfl rfl ?_)
  intro b1 w2 _ p3 hs4
  replace f_d_sectors := f_d_sectors.step p3
  replace f_d_pending := f_d_pending.step p3
  clear p3
  refine Rg_op rfl (op_assign (v := (Value.bool false)) rfl ?_)
  refine Rg_nil ?_
  refine Wp_seq ?_
  refine Wp_seq ?_
  refine Wp_region ?_  -- 1 law.go:33
  replace hm := bd hm; obtain ⟨sane_1, hv6, hm⟩ := hm
  refine Rg_op rfl (op_call Try.call13 (c13_overflightlaw44_sane  hs4.ltw  hv6) rfl ?_)
  rintro v7 w8 ⟨hx9, h10⟩
  have hs11 := hs4.call hx9
  have p12 := Step.ext (O := ks [(some b1, Obj.cells [(Value.slice a_d_sectors d.sectors.length c_d_sectors), (Value.slice a_d_pending d.pending.length c_d_pending), (Value.int .i64 d.left), (Value.bool d.stopped)].toArray 25)] O) hx9
  clear hx9
  replace f_d_sectors := f_d_sectors.step p12
  replace f_d_pending := f_d_pending.step p12
  clear p12 hs4
  obtain rfl := h10
  refine Rg_op rfl (op_not rfl ?_)
  refine Rg_nil ?_
  refine Wp_cond rfl (fun hc14 => ?_) (fun hc14 => ?_)
  ·
    replace hm := bif_t hm hc14
    refine Wp_seq ?_
    obtain ⟨hs15, p16⟩ := hs11.sub (bs' := []) (.cons _ List.Sublist.slnil)
    clear f_d_sectors f_d_pending
    clear p16 hs11
    refine Wp_region ?_  -- 2 law.go:34
    refine Rg_op rfl (op_assign (v := (Value.bool false)) rfl ?_)
    refine Rg_nil ?_
    refine Wp_ret ?_
    have hz := step_all hs15
    refine ⟨_, (show Closes [] _ _ from rfl), [(Value.bool false)], ⟨rfl, trivial⟩, hs15.ext, ?_⟩
    exact Vr.eq (a := vB) (x := false) rfl (Option.some.inj hm)
  ·
    replace hm := bif_f hm hc14
    refine Wp_skip ?_
    refine Wp_seq ?_
    refine Wp_reset [] [(0, (Value.int .i64 sectors)), (3, (Value.pointer (some ⟨b1, 0, none⟩)))] rfl ⟨rfl, rfl, trivial⟩ fun ξ17 => ?_
    replace hm := jn_elim hm; obtain ⟨k19, hk20, hm⟩ := hm
    refine Wp_seqJ [11, 12, 13, 14, 15, 16, 17, 18, 19, 20, 21] (fun fr w' => ∃ (v_1 : Bool) (Ebs : Ents), Ebs = [(some b1, Obj.cells [(Value.slice a_d_sectors d.sectors.length c_d_sectors), (Value.slice a_d_pending d.pending.length c_d_pending), (Value.int .i64 d.left), (Value.bool d.stopped)].toArray 25)] ∧ fr [] [(21, (Value.bool v_1))] ∧ Step (ks [(some b1, Obj.cells [(Value.slice a_d_sectors d.sectors.length c_d_sectors), (Value.slice a_d_pending d.pending.length c_d_pending), (Value.int .i64 d.left), (Value.bool d.stopped)].toArray 25)] O) w8 (ks Ebs O) w' ∧ St ⟨w, [], []⟩ O w' Ebs ∧ k19 v_1 = some x) ?_ ?_
    ·
      rintro ρ26 w22 ⟨v_1, Ebs, hEbs, hfr25, hst24, hs23, hm⟩
      replace hm := jnE1 hk20 hm
      subst hEbs; rw [hfr25.eq]; clear hfr25
      replace f_d_sectors := f_d_sectors.step hst24
      replace f_d_pending := f_d_pending.step hst24
      clear hst24 hs11
      refine Wp_cond rfl (fun hc27 => ?_) (fun hc27 => ?_)
      ·
        replace hm := bif_t hm hc27
        refine Wp_seq ?_
        obtain ⟨hs28, p29⟩ := hs23.sub (bs' := []) (.cons _ List.Sublist.slnil)
        clear f_d_sectors f_d_pending
        clear p29 hs23
        refine Wp_region ?_  -- 4 law.go:37
        refine Rg_op rfl (op_assign (v := (Value.bool true)) rfl ?_)
        refine Rg_nil ?_
        refine Wp_ret ?_
        have hz := step_all hs28
        refine ⟨_, (show Closes [] _ _ from rfl), [(Value.bool true)], ⟨rfl, trivial⟩, hs28.ext, ?_⟩
        exact Vr.eq (a := vB) (x := true) rfl (Option.some.inj hm)
      ·
        replace hm := bif_f hm hc27
        refine Wp_skip ?_
        refine Wp_seq ?_
        refine Wp_region ?_  -- 5 law.go:39
        refine Rg_op rfl (op_move (v := (Value.int .i64 sectors)) rfl ?_)
        replace hm := bd hm; obtain ⟨new_1, hv30, hm⟩ := hm
        refine Rg_op rfl (op_call Try.call15 (c15_disk_New (sectors := sectors) hs23.ltw r_sectors hv30) rfl ?_)
        rintro v31 w32 ⟨hx33, h34⟩
        have hs35 := hs23.call hx33
        have p36 := Step.ext (O := ks [(some b1, Obj.cells [(Value.slice a_d_sectors d.sectors.length c_d_sectors), (Value.slice a_d_pending d.pending.length c_d_pending), (Value.int .i64 d.left), (Value.bool d.stopped)].toArray 25)] O) hx33
        clear hx33
        replace f_d_sectors := f_d_sectors.step p36
        replace f_d_pending := f_d_pending.step p36
        clear p36 hs23
        obtain ⟨v37, v38, rfl, h39, h40⟩ := h34
        obtain ⟨_, rfl, ⟨_, _, rfl, ⟨a_y41_sectors, c_y41_sectors, rfl, f_y41_sectors⟩, ⟨_, _, rfl, ⟨a_y41_pending, c_y41_pending, rfl, f_y41_pending⟩, ⟨_, _, rfl, ⟨rfl, r_y41_left⟩, rfl⟩⟩⟩⟩ := h39
        obtain ⟨rfl, r_y42⟩ := h40
        refine Rg_op rfl (op_move (v := (Value.tuple [(Value.agg [(Value.slice a_y41_sectors new_1.1.sectors.length c_y41_sectors), (Value.slice a_y41_pending new_1.1.pending.length c_y41_pending), (Value.int .i64 new_1.1.left), (Value.bool new_1.1.stopped)].toArray), (Value.int .i64 new_1.2)].toArray)) rfl ?_)
        refine Rg_op rfl (op_extract (v := (Value.agg [(Value.slice a_y41_sectors new_1.1.sectors.length c_y41_sectors), (Value.slice a_y41_pending new_1.1.pending.length c_y41_pending), (Value.int .i64 new_1.1.left), (Value.bool new_1.1.stopped)].toArray)) rfl rfl ?_)
        refine Rg_op rfl (op_extract (v := (Value.int .i64 new_1.2)) rfl rfl ?_)
        refine Rg_op rfl (op_alloc ty25 hs35 ?_)
        intro b43 w44 _ p45 hs46
        replace f_d_sectors := f_d_sectors.step p45
        replace f_d_pending := f_d_pending.step p45
        replace f_y41_sectors := f_y41_sectors.step p45
        replace f_y41_pending := f_y41_pending.step p45
        clear p45 hs35
        refine Rg_op_ (op_store (cs := [(Value.slice none 0 0), (Value.slice none 0 0), (Value.int .i64 0), (Value.bool false)]) (vs := [(Value.slice a_y41_sectors new_1.1.sectors.length c_y41_sectors), (Value.slice a_y41_pending new_1.1.pending.length c_y41_pending), (Value.int .i64 new_1.1.left), (Value.bool new_1.1.stopped)]) (cs' := [(Value.slice a_y41_sectors new_1.1.sectors.length c_y41_sectors), (Value.slice a_y41_pending new_1.1.pending.length c_y41_pending), (Value.int .i64 new_1.1.left), (Value.bool new_1.1.stopped)]) (bs' := [(some b43, Obj.cells [(Value.slice a_y41_sectors new_1.1.sectors.length c_y41_sectors), (Value.slice a_y41_pending new_1.1.pending.length c_y41_pending), (Value.int .i64 new_1.1.left), (Value.bool new_1.1.stopped)].toArray 25), (some b1, Obj.cells [(Value.slice a_d_sectors d.sectors.length c_d_sectors), (Value.slice a_d_pending d.pending.length c_d_pending), (Value.int .i64 d.left), (Value.bool d.stopped)].toArray 25)]) (i := 0) ty25 hs46 rfl rfl rfl rfl rfl (le_lit rfl) rfl rfl rfl ?_)
        intro w48 p49 hs50
        replace f_d_sectors := f_d_sectors.step p49
        replace f_d_pending := f_d_pending.step p49
        replace f_y41_sectors := f_y41_sectors.step p49
        replace f_y41_pending := f_y41_pending.step p49
        clear p49 hs46
        refine Rg_op rfl (op_assign (v := (Value.int .i64 new_1.2)) rfl ?_)
        refine Rg_nil ?_
        refine Wp_seq ?_
        refine Wp_region ?_  -- 6 law.go:40
        refine Rg_op rfl (op_move (v := (Value.int .i64 sectors)) rfl ?_)
        replace hm := bd hm; obtain ⟨new_2, hv51, hm⟩ := hm
        refine Rg_op rfl (op_call Try.call16 (c16_overflightref44_New (sectors := sectors) hs50.ltw r_sectors hv51) rfl ?_)
        rintro v52 w53 ⟨hx54, h55⟩
        have hs56 := hs50.call hx54
        have p57 := Step.ext (O := ks [(some b43, Obj.cells [(Value.slice a_y41_sectors new_1.1.sectors.length c_y41_sectors), (Value.slice a_y41_pending new_1.1.pending.length c_y41_pending), (Value.int .i64 new_1.1.left), (Value.bool new_1.1.stopped)].toArray 25), (some b1, Obj.cells [(Value.slice a_d_sectors d.sectors.length c_d_sectors), (Value.slice a_d_pending d.pending.length c_d_pending), (Value.int .i64 d.left), (Value.bool d.stopped)].toArray 25)] O) hx54
        clear hx54
        replace f_d_sectors := f_d_sectors.step p57
        replace f_d_pending := f_d_pending.step p57
        replace f_y41_sectors := f_y41_sectors.step p57
        replace f_y41_pending := f_y41_pending.step p57
        clear p57 hs50
        obtain ⟨v58, v59, rfl, h60, h61⟩ := h55
        obtain ⟨_, rfl, ⟨_, _, rfl, ⟨a_y62_sectors, c_y62_sectors, rfl, f_y62_sectors⟩, ⟨_, _, rfl, ⟨a_y62_pending, c_y62_pending, rfl, f_y62_pending⟩, ⟨_, _, rfl, ⟨rfl, r_y62_left⟩, rfl⟩⟩⟩⟩ := h60
        obtain ⟨rfl, r_y63⟩ := h61
        refine Rg_op rfl (op_move (v := (Value.tuple [(Value.agg [(Value.slice a_y62_sectors new_2.1.sectors.length c_y62_sectors), (Value.slice a_y62_pending new_2.1.pending.length c_y62_pending), (Value.int .i64 new_2.1.left), (Value.bool new_2.1.stopped)].toArray), (Value.int .i64 new_2.2)].toArray)) rfl ?_)
        refine Rg_op rfl (op_extract (v := (Value.agg [(Value.slice a_y62_sectors new_2.1.sectors.length c_y62_sectors), (Value.slice a_y62_pending new_2.1.pending.length c_y62_pending), (Value.int .i64 new_2.1.left), (Value.bool new_2.1.stopped)].toArray)) rfl rfl ?_)
        refine Rg_op rfl (op_extract (v := (Value.int .i64 new_2.2)) rfl rfl ?_)
        refine Rg_op rfl (op_alloc ty25 hs56 ?_)
        intro b64 w65 _ p66 hs67
        replace f_d_sectors := f_d_sectors.step p66
        replace f_d_pending := f_d_pending.step p66
        replace f_y41_sectors := f_y41_sectors.step p66
        replace f_y41_pending := f_y41_pending.step p66
        replace f_y62_sectors := f_y62_sectors.step p66
        replace f_y62_pending := f_y62_pending.step p66
        clear p66 hs56
        refine Rg_op_ (op_store (cs := [(Value.slice none 0 0), (Value.slice none 0 0), (Value.int .i64 0), (Value.bool false)]) (vs := [(Value.slice a_y62_sectors new_2.1.sectors.length c_y62_sectors), (Value.slice a_y62_pending new_2.1.pending.length c_y62_pending), (Value.int .i64 new_2.1.left), (Value.bool new_2.1.stopped)]) (cs' := [(Value.slice a_y62_sectors new_2.1.sectors.length c_y62_sectors), (Value.slice a_y62_pending new_2.1.pending.length c_y62_pending), (Value.int .i64 new_2.1.left), (Value.bool new_2.1.stopped)]) (bs' := [(some b64, Obj.cells [(Value.slice a_y62_sectors new_2.1.sectors.length c_y62_sectors), (Value.slice a_y62_pending new_2.1.pending.length c_y62_pending), (Value.int .i64 new_2.1.left), (Value.bool new_2.1.stopped)].toArray 25), (some b43, Obj.cells [(Value.slice a_y41_sectors new_1.1.sectors.length c_y41_sectors), (Value.slice a_y41_pending new_1.1.pending.length c_y41_pending), (Value.int .i64 new_1.1.left), (Value.bool new_1.1.stopped)].toArray 25), (some b1, Obj.cells [(Value.slice a_d_sectors d.sectors.length c_d_sectors), (Value.slice a_d_pending d.pending.length c_d_pending), (Value.int .i64 d.left), (Value.bool d.stopped)].toArray 25)]) (i := 0) ty25 hs67 rfl rfl rfl rfl rfl (le_lit rfl) rfl rfl rfl ?_)
        intro w69 p70 hs71
        replace f_d_sectors := f_d_sectors.step p70
        replace f_d_pending := f_d_pending.step p70
        replace f_y41_sectors := f_y41_sectors.step p70
        replace f_y41_pending := f_y41_pending.step p70
        replace f_y62_sectors := f_y62_sectors.step p70
        replace f_y62_pending := f_y62_pending.step p70
        clear p70 hs67
        refine Rg_op rfl (op_assign (v := (Value.int .i64 new_2.2)) rfl ?_)
        refine Rg_nil ?_
        refine Wp_reset [] [(3, (Value.pointer (some ⟨b1, 0, none⟩))), (5, (Value.pointer (some ⟨b43, 0, none⟩))), (6, (Value.int .i64 new_1.2)), (7, (Value.pointer (some ⟨b64, 0, none⟩))), (8, (Value.int .i64 new_2.2))] rfl ⟨rfl, rfl, rfl, rfl, rfl, trivial⟩ fun ξ72 => ?_
        replace hm := jn_elim hm; obtain ⟨k74, hk75, hm⟩ := hm
        refine Wp_seqJ [4, 32, 33, 34, 35, 36, 37, 38, 39, 40, 41, 42, 43, 44, 45, 46, 47, 48, 49, 50, 51, 52, 53] (fun fr w' => ∃ (v_2 : Bool) (Ebs : Ents), Ebs = [(some b64, Obj.cells [(Value.slice a_y62_sectors new_2.1.sectors.length c_y62_sectors), (Value.slice a_y62_pending new_2.1.pending.length c_y62_pending), (Value.int .i64 new_2.1.left), (Value.bool new_2.1.stopped)].toArray 25), (some b43, Obj.cells [(Value.slice a_y41_sectors new_1.1.sectors.length c_y41_sectors), (Value.slice a_y41_pending new_1.1.pending.length c_y41_pending), (Value.int .i64 new_1.1.left), (Value.bool new_1.1.stopped)].toArray 25), (some b1, Obj.cells [(Value.slice a_d_sectors d.sectors.length c_d_sectors), (Value.slice a_d_pending d.pending.length c_d_pending), (Value.int .i64 d.left), (Value.bool d.stopped)].toArray 25)] ∧ fr [] [(4, (Value.bool v_2))] ∧ Step (ks [(some b64, Obj.cells [(Value.slice a_y62_sectors new_2.1.sectors.length c_y62_sectors), (Value.slice a_y62_pending new_2.1.pending.length c_y62_pending), (Value.int .i64 new_2.1.left), (Value.bool new_2.1.stopped)].toArray 25), (some b43, Obj.cells [(Value.slice a_y41_sectors new_1.1.sectors.length c_y41_sectors), (Value.slice a_y41_pending new_1.1.pending.length c_y41_pending), (Value.int .i64 new_1.1.left), (Value.bool new_1.1.stopped)].toArray 25), (some b1, Obj.cells [(Value.slice a_d_sectors d.sectors.length c_d_sectors), (Value.slice a_d_pending d.pending.length c_d_pending), (Value.int .i64 d.left), (Value.bool d.stopped)].toArray 25)] O) w69 (ks Ebs O) w' ∧ St ⟨w, [], []⟩ O w' Ebs ∧ k74 v_2 = some x) ?_ ?_
        ·
          rintro ρ81 w77 ⟨v_2, Ebs, hEbs, hfr80, hst79, hs78, hm⟩
          replace hm := jnE1 hk75 hm
          subst hEbs; rw [hfr80.eq]; clear hfr80
          replace f_d_sectors := f_d_sectors.step hst79
          replace f_d_pending := f_d_pending.step hst79
          replace f_y41_sectors := f_y41_sectors.step hst79
          replace f_y41_pending := f_y41_pending.step hst79
          replace f_y62_sectors := f_y62_sectors.step hst79
          replace f_y62_pending := f_y62_pending.step hst79
          clear hst79 hs71
          refine Wp_ret ?_
          have hz := step_all hs78
          replace f_d_sectors := f_d_sectors.step hz
          replace f_d_pending := f_d_pending.step hz
          replace f_y41_sectors := f_y41_sectors.step hz
          replace f_y41_pending := f_y41_pending.step hz
          replace f_y62_sectors := f_y62_sectors.step hz
          replace f_y62_pending := f_y62_pending.step hz
          refine ⟨_, (show Closes [] _ _ from rfl), [(Value.bool v_2)], ⟨rfl, trivial⟩, hs78.ext, ?_⟩
          exact Vr.eq (a := vB) (x := v_2) rfl (Option.some.inj hm)
        ·
          intro K76 hK76
          have ch82 := Step.refl (ks [(some b64, Obj.cells [(Value.slice a_y62_sectors new_2.1.sectors.length c_y62_sectors), (Value.slice a_y62_pending new_2.1.pending.length c_y62_pending), (Value.int .i64 new_2.1.left), (Value.bool new_2.1.stopped)].toArray 25), (some b43, Obj.cells [(Value.slice a_y41_sectors new_1.1.sectors.length c_y41_sectors), (Value.slice a_y41_pending new_1.1.pending.length c_y41_pending), (Value.int .i64 new_1.1.left), (Value.bool new_1.1.stopped)].toArray 25), (some b1, Obj.cells [(Value.slice a_d_sectors d.sectors.length c_d_sectors), (Value.slice a_d_pending d.pending.length c_d_pending), (Value.int .i64 d.left), (Value.bool d.stopped)].toArray 25)] O) w69
          refine Wp_drawR (g0 := []) (m := 22) (fl := []) (TS_inv hs71) (.inl rfl) rfl (by decide +kernel) ?_  -- 7
          refine Dw_eq (Value.agg [(Value.slice a_y41_sectors new_1.1.sectors.length c_y41_sectors), (Value.slice a_y41_pending new_1.1.pending.length c_y41_pending), (Value.int .i64 new_1.1.left), (Value.bool new_1.1.stopped)].toArray) (fun ρ83 w84 g hle hi ht => ?_) ?_
          ·
            obtain ⟨-, hst, -⟩ := hle
            have hsn := (Step.nx hi).1
            refine StepOp_plain (op_loadA (cs := [(Value.slice a_y41_sectors new_1.1.sectors.length c_y41_sectors), (Value.slice a_y41_pending new_1.1.pending.length c_y41_pending), (Value.int .i64 new_1.1.left), (Value.bool new_1.1.stopped)]) (vs := [(Value.slice a_y41_sectors new_1.1.sectors.length c_y41_sectors), (Value.slice a_y41_pending new_1.1.pending.length c_y41_pending), (Value.int .i64 new_1.1.left), (Value.bool new_1.1.stopped)]) (i := 1) ty25 hsn (ht 5 rfl) rfl rfl rfl ?_)
            exact Goes.same hi rfl
          refine Dw_eq (Value.agg [(Value.slice a_y62_sectors new_2.1.sectors.length c_y62_sectors), (Value.slice a_y62_pending new_2.1.pending.length c_y62_pending), (Value.int .i64 new_2.1.left), (Value.bool new_2.1.stopped)].toArray) (fun ρ86 w87 g hle hi ht => ?_) ?_
          ·
            obtain ⟨-, hst, -⟩ := hle
            have hsn := (Step.nx hi).1
            refine StepOp_plain (op_loadA (cs := [(Value.slice a_y62_sectors new_2.1.sectors.length c_y62_sectors), (Value.slice a_y62_pending new_2.1.pending.length c_y62_pending), (Value.int .i64 new_2.1.left), (Value.bool new_2.1.stopped)]) (vs := [(Value.slice a_y62_sectors new_2.1.sectors.length c_y62_sectors), (Value.slice a_y62_pending new_2.1.pending.length c_y62_pending), (Value.int .i64 new_2.1.left), (Value.bool new_2.1.stopped)]) (i := 0) ty25 hsn (ht 7 rfl) rfl rfl rfl ?_)
            exact Goes.same hi rfl
          replace hm := bd hm; obtain ⟨same_1, hv92, hm⟩ := hm
          refine Dw_op (VD O [(some b64, Obj.cells [(Value.slice a_y62_sectors new_2.1.sectors.length c_y62_sectors), (Value.slice a_y62_pending new_2.1.pending.length c_y62_pending), (Value.int .i64 new_2.1.left), (Value.bool new_2.1.stopped)].toArray 25), (some b43, Obj.cells [(Value.slice a_y41_sectors new_1.1.sectors.length c_y41_sectors), (Value.slice a_y41_pending new_1.1.pending.length c_y41_pending), (Value.int .i64 new_1.1.left), (Value.bool new_1.1.stopped)].toArray 25), (some b1, Obj.cells [(Value.slice a_d_sectors d.sectors.length c_d_sectors), (Value.slice a_d_pending d.pending.length c_d_pending), (Value.int .i64 d.left), (Value.bool d.stopped)].toArray 25)] vB same_1) (VD.stab _ _) (fun ρ89 w90 g hle hi ht => ?_) ?_
          ·
            obtain ⟨-, hst, -⟩ := hle
            replace f_y41_sectors := f_y41_sectors.step hst
            replace f_y41_pending := f_y41_pending.step hst
            replace f_y62_sectors := f_y62_sectors.step hst
            replace f_y62_pending := f_y62_pending.step hst
            refine StepOp_plain (op_call Try.call17 (c17_overflightref44_Same (O := ks (ents g ++ [(some b64, Obj.cells [(Value.slice a_y62_sectors new_2.1.sectors.length c_y62_sectors), (Value.slice a_y62_pending new_2.1.pending.length c_y62_pending), (Value.int .i64 new_2.1.left), (Value.bool new_2.1.stopped)].toArray 25), (some b43, Obj.cells [(Value.slice a_y41_sectors new_1.1.sectors.length c_y41_sectors), (Value.slice a_y41_pending new_1.1.pending.length c_y41_pending), (Value.int .i64 new_1.1.left), (Value.bool new_1.1.stopped)].toArray 25), (some b1, Obj.cells [(Value.slice a_d_sectors d.sectors.length c_d_sectors), (Value.slice a_d_pending d.pending.length c_d_pending), (Value.int .i64 d.left), (Value.bool d.stopped)].toArray 25)]) O) (a := new_1.1) (b := new_2.1) hi.ltw f_y41_sectors f_y41_pending r_y41_left f_y62_sectors f_y62_pending r_y62_left hv92) (by simp only [List.map, Array.toList, (show ev _ (.tmp 32) = _ from (ht 32 rfl)), (show ev _ (.tmp 33) = _ from (ht 33 rfl))] <;> rfl) ?_)
            rintro v93 w94 ⟨hx95, h96⟩
            exact Goes.call hi hx95 h96
          refine Dw_opB same_1 (fun ρ98 w99 g hle hi ht => ?_) (fun hg104 => ?_) (fun hg104 => ?_)
          ·
            obtain ⟨-, hst, -⟩ := hle
            have h101 : Vr.vd vB _ _ _ _ := ht 34 rfl
            have q102 : _ = (Value.bool same_1) := h101
            refine StepOp_plain (op_move (v := (Value.bool same_1)) q102 ?_)
            exact Goes.same hi rfl
          ·
            replace hm := bif_t hm hg104
            refine Dw_eq (Value.int .i64 new_1.2) (fun ρ105 w106 g hle hi ht => ?_) ?_
            ·
              obtain ⟨-, hst, -⟩ := hle
              refine StepOp_g rfl (ht 35 rfl) (op_move (v := (Value.int .i64 new_1.2)) (ht 6 rfl) ?_)
              exact Goes.same hi rfl
            refine Dw_eq (Value.int .i64 new_2.2) (fun ρ108 w109 g hle hi ht => ?_) ?_
            ·
              obtain ⟨-, hst, -⟩ := hle
              refine StepOp_g rfl (ht 35 rfl) (op_move (v := (Value.int .i64 new_2.2)) (ht 8 rfl) ?_)
              exact Goes.same hi rfl
            refine Dw_eq (Value.bool (decide (new_1.2 = new_2.2))) (fun ρ111 w112 g hle hi ht => ?_) ?_
            ·
              obtain ⟨-, hst, -⟩ := hle
              refine StepOp_g rfl (ht 35 rfl) (op_eql (ht 36 rfl) (ht 37 rfl) ?_)
              exact Goes.same hi rfl
            refine Dw_eq (Value.bool (decide (new_1.2 = new_2.2))) (fun ρ114 w115 g hle hi ht => ?_) ?_
            ·
              obtain ⟨-, hst, -⟩ := hle
              refine StepOp_plain (op_pick_t (v := (Value.bool (decide (new_1.2 = new_2.2)))) (ht 35 rfl) (ht 38 rfl) ?_)
              exact Goes.same hi rfl
            refine Dw_opB (decide (new_1.2 = new_2.2)) (fun ρ117 w118 g hle hi ht => ?_) (fun hg120 => ?_) (fun hg120 => ?_)
            ·
              obtain ⟨-, hst, -⟩ := hle
              refine StepOp_plain (op_move (v := (Value.bool (decide (new_1.2 = new_2.2)))) (ht 39 rfl) ?_)
              exact Goes.same hi rfl
            ·
              replace hm := bif_t hm hg120
              refine Dw_eq (Value.agg [(Value.slice a_d_sectors d.sectors.length c_d_sectors), (Value.slice a_d_pending d.pending.length c_d_pending), (Value.int .i64 d.left), (Value.bool d.stopped)].toArray) (fun ρ121 w122 g hle hi ht => ?_) ?_
              ·
                obtain ⟨-, hst, -⟩ := hle
                have hsn := (Step.nx hi).1
                refine StepOp_g rfl (ht 40 rfl) (op_loadA (cs := [(Value.slice a_d_sectors d.sectors.length c_d_sectors), (Value.slice a_d_pending d.pending.length c_d_pending), (Value.int .i64 d.left), (Value.bool d.stopped)]) (vs := [(Value.slice a_d_sectors d.sectors.length c_d_sectors), (Value.slice a_d_pending d.pending.length c_d_pending), (Value.int .i64 d.left), (Value.bool d.stopped)]) (i := 2) ty25 hsn (ht 3 rfl) rfl rfl rfl ?_)
                exact Goes.same hi rfl
              replace hm := bd hm; obtain ⟨check_1, hv127, hm⟩ := hm
              refine Dw_op (VD O [(some b64, Obj.cells [(Value.slice a_y62_sectors new_2.1.sectors.length c_y62_sectors), (Value.slice a_y62_pending new_2.1.pending.length c_y62_pending), (Value.int .i64 new_2.1.left), (Value.bool new_2.1.stopped)].toArray 25), (some b43, Obj.cells [(Value.slice a_y41_sectors new_1.1.sectors.length c_y41_sectors), (Value.slice a_y41_pending new_1.1.pending.length c_y41_pending), (Value.int .i64 new_1.1.left), (Value.bool new_1.1.stopped)].toArray 25), (some b1, Obj.cells [(Value.slice a_d_sectors d.sectors.length c_d_sectors), (Value.slice a_d_pending d.pending.length c_d_pending), (Value.int .i64 d.left), (Value.bool d.stopped)].toArray 25)] (vI .i64) check_1) (VD.stab _ _) (fun ρ124 w125 g hle hi ht => ?_) ?_
              ·
                obtain ⟨-, hst, -⟩ := hle
                replace f_d_sectors := f_d_sectors.step hst
                replace f_d_pending := f_d_pending.step hst
                refine StepOp_g rfl (ht 40 rfl) (op_call Try.call18 (c18_disk_Check (O := ks (ents g ++ [(some b64, Obj.cells [(Value.slice a_y62_sectors new_2.1.sectors.length c_y62_sectors), (Value.slice a_y62_pending new_2.1.pending.length c_y62_pending), (Value.int .i64 new_2.1.left), (Value.bool new_2.1.stopped)].toArray 25), (some b43, Obj.cells [(Value.slice a_y41_sectors new_1.1.sectors.length c_y41_sectors), (Value.slice a_y41_pending new_1.1.pending.length c_y41_pending), (Value.int .i64 new_1.1.left), (Value.bool new_1.1.stopped)].toArray 25), (some b1, Obj.cells [(Value.slice a_d_sectors d.sectors.length c_d_sectors), (Value.slice a_d_pending d.pending.length c_d_pending), (Value.int .i64 d.left), (Value.bool d.stopped)].toArray 25)]) O) (d := d) hi.ltw f_d_sectors f_d_pending r_d_left hv127) (by simp only [List.map, Array.toList, (show ev _ (.tmp 41) = _ from (ht 41 rfl))] <;> rfl) ?_)
                rintro v128 w129 ⟨hx130, h131⟩
                exact Goes.call hi hx130 h131
              refine Dw_eq (Value.agg [(Value.slice a_d_sectors d.sectors.length c_d_sectors), (Value.slice a_d_pending d.pending.length c_d_pending), (Value.int .i64 d.left), (Value.bool d.stopped)].toArray) (fun ρ133 w134 g hle hi ht => ?_) ?_
              ·
                obtain ⟨-, hst, -⟩ := hle
                have hsn := (Step.nx hi).1
                refine StepOp_g rfl (ht 40 rfl) (op_loadA (cs := [(Value.slice a_d_sectors d.sectors.length c_d_sectors), (Value.slice a_d_pending d.pending.length c_d_pending), (Value.int .i64 d.left), (Value.bool d.stopped)]) (vs := [(Value.slice a_d_sectors d.sectors.length c_d_sectors), (Value.slice a_d_pending d.pending.length c_d_pending), (Value.int .i64 d.left), (Value.bool d.stopped)]) (i := 2) ty25 hsn (ht 3 rfl) rfl rfl rfl ?_)
                exact Goes.same hi rfl
              replace hm := bd hm; obtain ⟨check_2, hv139, hm⟩ := hm
              refine Dw_op (VD O [(some b64, Obj.cells [(Value.slice a_y62_sectors new_2.1.sectors.length c_y62_sectors), (Value.slice a_y62_pending new_2.1.pending.length c_y62_pending), (Value.int .i64 new_2.1.left), (Value.bool new_2.1.stopped)].toArray 25), (some b43, Obj.cells [(Value.slice a_y41_sectors new_1.1.sectors.length c_y41_sectors), (Value.slice a_y41_pending new_1.1.pending.length c_y41_pending), (Value.int .i64 new_1.1.left), (Value.bool new_1.1.stopped)].toArray 25), (some b1, Obj.cells [(Value.slice a_d_sectors d.sectors.length c_d_sectors), (Value.slice a_d_pending d.pending.length c_d_pending), (Value.int .i64 d.left), (Value.bool d.stopped)].toArray 25)] (vI .i64) check_2) (VD.stab _ _) (fun ρ136 w137 g hle hi ht => ?_) ?_
              ·
                obtain ⟨-, hst, -⟩ := hle
                replace f_d_sectors := f_d_sectors.step hst
                replace f_d_pending := f_d_pending.step hst
                refine StepOp_g rfl (ht 40 rfl) (op_call Try.call19 (c19_overflightref44_Check (O := ks (ents g ++ [(some b64, Obj.cells [(Value.slice a_y62_sectors new_2.1.sectors.length c_y62_sectors), (Value.slice a_y62_pending new_2.1.pending.length c_y62_pending), (Value.int .i64 new_2.1.left), (Value.bool new_2.1.stopped)].toArray 25), (some b43, Obj.cells [(Value.slice a_y41_sectors new_1.1.sectors.length c_y41_sectors), (Value.slice a_y41_pending new_1.1.pending.length c_y41_pending), (Value.int .i64 new_1.1.left), (Value.bool new_1.1.stopped)].toArray 25), (some b1, Obj.cells [(Value.slice a_d_sectors d.sectors.length c_d_sectors), (Value.slice a_d_pending d.pending.length c_d_pending), (Value.int .i64 d.left), (Value.bool d.stopped)].toArray 25)]) O) (d := d) hi.ltw f_d_sectors f_d_pending r_d_left hv139) (by simp only [List.map, Array.toList, (show ev _ (.tmp 43) = _ from (ht 43 rfl))] <;> rfl) ?_)
                rintro v140 w141 ⟨hx142, h143⟩
                exact Goes.call hi hx142 h143
              refine Dw_eq (Value.bool (decide (check_1 = check_2))) (fun ρ145 w146 g hle hi ht => ?_) ?_
              ·
                obtain ⟨-, hst, -⟩ := hle
                have h148 : Vr.vd (vI .i64) _ _ _ _ := ht 42 rfl
                obtain ⟨q149, r_y150⟩ := h148
                have h151 : Vr.vd (vI .i64) _ _ _ _ := ht 44 rfl
                obtain ⟨q152, r_y153⟩ := h151
                refine StepOp_g rfl (ht 40 rfl) (op_eql q149 q152 ?_)
                exact Goes.same hi rfl
              refine Dw_eq (Value.bool (decide (check_1 = check_2))) (fun ρ154 w155 g hle hi ht => ?_) ?_
              ·
                obtain ⟨-, hst, -⟩ := hle
                refine StepOp_plain (op_pick_t (v := (Value.bool (decide (check_1 = check_2)))) (ht 40 rfl) (ht 45 rfl) ?_)
                exact Goes.same hi rfl
              refine Dw_opB (decide (check_1 = check_2)) (fun ρ157 w158 g hle hi ht => ?_) (fun hg160 => ?_) (fun hg160 => ?_)
              ·
                obtain ⟨-, hst, -⟩ := hle
                refine StepOp_plain (op_move (v := (Value.bool (decide (check_1 = check_2)))) (ht 46 rfl) ?_)
                exact Goes.same hi rfl
              ·
                replace hm := bif_t hm hg160
                refine Dw_eq (Value.agg [(Value.slice a_d_sectors d.sectors.length c_d_sectors), (Value.slice a_d_pending d.pending.length c_d_pending), (Value.int .i64 d.left), (Value.bool d.stopped)].toArray) (fun ρ161 w162 g hle hi ht => ?_) ?_
                ·
                  obtain ⟨-, hst, -⟩ := hle
                  have hsn := (Step.nx hi).1
                  refine StepOp_g rfl (ht 47 rfl) (op_loadA (cs := [(Value.slice a_d_sectors d.sectors.length c_d_sectors), (Value.slice a_d_pending d.pending.length c_d_pending), (Value.int .i64 d.left), (Value.bool d.stopped)]) (vs := [(Value.slice a_d_sectors d.sectors.length c_d_sectors), (Value.slice a_d_pending d.pending.length c_d_pending), (Value.int .i64 d.left), (Value.bool d.stopped)]) (i := 2) ty25 hsn (ht 3 rfl) rfl rfl rfl ?_)
                  exact Goes.same hi rfl
                replace hm := bd hm; obtain ⟨restart_1, hv167, hm⟩ := hm
                refine Dw_op (VD O [(some b64, Obj.cells [(Value.slice a_y62_sectors new_2.1.sectors.length c_y62_sectors), (Value.slice a_y62_pending new_2.1.pending.length c_y62_pending), (Value.int .i64 new_2.1.left), (Value.bool new_2.1.stopped)].toArray 25), (some b43, Obj.cells [(Value.slice a_y41_sectors new_1.1.sectors.length c_y41_sectors), (Value.slice a_y41_pending new_1.1.pending.length c_y41_pending), (Value.int .i64 new_1.1.left), (Value.bool new_1.1.stopped)].toArray 25), (some b1, Obj.cells [(Value.slice a_d_sectors d.sectors.length c_d_sectors), (Value.slice a_d_pending d.pending.length c_d_pending), (Value.int .i64 d.left), (Value.bool d.stopped)].toArray 25)] (vA rXDisk) restart_1) (VD.stab _ _) (fun ρ164 w165 g hle hi ht => ?_) ?_
                ·
                  obtain ⟨-, hst, -⟩ := hle
                  replace f_d_sectors := f_d_sectors.step hst
                  replace f_d_pending := f_d_pending.step hst
                  refine StepOp_g rfl (ht 47 rfl) (op_call Try.call20 (c20_disk_Restart (O := ks (ents g ++ [(some b64, Obj.cells [(Value.slice a_y62_sectors new_2.1.sectors.length c_y62_sectors), (Value.slice a_y62_pending new_2.1.pending.length c_y62_pending), (Value.int .i64 new_2.1.left), (Value.bool new_2.1.stopped)].toArray 25), (some b43, Obj.cells [(Value.slice a_y41_sectors new_1.1.sectors.length c_y41_sectors), (Value.slice a_y41_pending new_1.1.pending.length c_y41_pending), (Value.int .i64 new_1.1.left), (Value.bool new_1.1.stopped)].toArray 25), (some b1, Obj.cells [(Value.slice a_d_sectors d.sectors.length c_d_sectors), (Value.slice a_d_pending d.pending.length c_d_pending), (Value.int .i64 d.left), (Value.bool d.stopped)].toArray 25)]) O) (d := d) hi.ltw f_d_sectors f_d_pending r_d_left hv167) (by simp only [List.map, Array.toList, (show ev _ (.tmp 48) = _ from (ht 48 rfl))] <;> rfl) ?_)
                  rintro v168 w169 ⟨hx170, h171⟩
                  exact Goes.call hi hx170 h171
                refine Dw_eq (Value.agg [(Value.slice a_d_sectors d.sectors.length c_d_sectors), (Value.slice a_d_pending d.pending.length c_d_pending), (Value.int .i64 d.left), (Value.bool d.stopped)].toArray) (fun ρ173 w174 g hle hi ht => ?_) ?_
                ·
                  obtain ⟨-, hst, -⟩ := hle
                  have hsn := (Step.nx hi).1
                  refine StepOp_g rfl (ht 47 rfl) (op_loadA (cs := [(Value.slice a_d_sectors d.sectors.length c_d_sectors), (Value.slice a_d_pending d.pending.length c_d_pending), (Value.int .i64 d.left), (Value.bool d.stopped)]) (vs := [(Value.slice a_d_sectors d.sectors.length c_d_sectors), (Value.slice a_d_pending d.pending.length c_d_pending), (Value.int .i64 d.left), (Value.bool d.stopped)]) (i := 2) ty25 hsn (ht 3 rfl) rfl rfl rfl ?_)
                  exact Goes.same hi rfl
                replace hm := bd hm; obtain ⟨restart_2, hv179, hm⟩ := hm
                refine Dw_op (VD O [(some b64, Obj.cells [(Value.slice a_y62_sectors new_2.1.sectors.length c_y62_sectors), (Value.slice a_y62_pending new_2.1.pending.length c_y62_pending), (Value.int .i64 new_2.1.left), (Value.bool new_2.1.stopped)].toArray 25), (some b43, Obj.cells [(Value.slice a_y41_sectors new_1.1.sectors.length c_y41_sectors), (Value.slice a_y41_pending new_1.1.pending.length c_y41_pending), (Value.int .i64 new_1.1.left), (Value.bool new_1.1.stopped)].toArray 25), (some b1, Obj.cells [(Value.slice a_d_sectors d.sectors.length c_d_sectors), (Value.slice a_d_pending d.pending.length c_d_pending), (Value.int .i64 d.left), (Value.bool d.stopped)].toArray 25)] (vA rXDisk) restart_2) (VD.stab _ _) (fun ρ176 w177 g hle hi ht => ?_) ?_
                ·
                  obtain ⟨-, hst, -⟩ := hle
                  replace f_d_sectors := f_d_sectors.step hst
                  replace f_d_pending := f_d_pending.step hst
                  refine StepOp_g rfl (ht 47 rfl) (op_call Try.call21 (c21_overflightref44_Restart (O := ks (ents g ++ [(some b64, Obj.cells [(Value.slice a_y62_sectors new_2.1.sectors.length c_y62_sectors), (Value.slice a_y62_pending new_2.1.pending.length c_y62_pending), (Value.int .i64 new_2.1.left), (Value.bool new_2.1.stopped)].toArray 25), (some b43, Obj.cells [(Value.slice a_y41_sectors new_1.1.sectors.length c_y41_sectors), (Value.slice a_y41_pending new_1.1.pending.length c_y41_pending), (Value.int .i64 new_1.1.left), (Value.bool new_1.1.stopped)].toArray 25), (some b1, Obj.cells [(Value.slice a_d_sectors d.sectors.length c_d_sectors), (Value.slice a_d_pending d.pending.length c_d_pending), (Value.int .i64 d.left), (Value.bool d.stopped)].toArray 25)]) O) (d := d) hi.ltw f_d_sectors f_d_pending r_d_left hv179) (by simp only [List.map, Array.toList, (show ev _ (.tmp 50) = _ from (ht 50 rfl))] <;> rfl) ?_)
                  rintro v180 w181 ⟨hx182, h183⟩
                  exact Goes.call hi hx182 h183
                replace hm := bd hm; obtain ⟨same_2, hv194, hm⟩ := hm
                refine Dw_op (VD O [(some b64, Obj.cells [(Value.slice a_y62_sectors new_2.1.sectors.length c_y62_sectors), (Value.slice a_y62_pending new_2.1.pending.length c_y62_pending), (Value.int .i64 new_2.1.left), (Value.bool new_2.1.stopped)].toArray 25), (some b43, Obj.cells [(Value.slice a_y41_sectors new_1.1.sectors.length c_y41_sectors), (Value.slice a_y41_pending new_1.1.pending.length c_y41_pending), (Value.int .i64 new_1.1.left), (Value.bool new_1.1.stopped)].toArray 25), (some b1, Obj.cells [(Value.slice a_d_sectors d.sectors.length c_d_sectors), (Value.slice a_d_pending d.pending.length c_d_pending), (Value.int .i64 d.left), (Value.bool d.stopped)].toArray 25)] vB same_2) (VD.stab _ _) (fun ρ185 w186 g hle hi ht => ?_) ?_
                ·
                  obtain ⟨-, hst, -⟩ := hle
                  have h188 : Vr.vd (vA rXDisk) _ _ _ _ := ht 49 rfl
                  obtain ⟨_, q189, ⟨_, _, rfl, ⟨a_y190_sectors, c_y190_sectors, rfl, f_y190_sectors⟩, ⟨_, _, rfl, ⟨a_y190_pending, c_y190_pending, rfl, f_y190_pending⟩, ⟨_, _, rfl, ⟨rfl, r_y190_left⟩, rfl⟩⟩⟩⟩ := h188
                  have h191 : Vr.vd (vA rXDisk) _ _ _ _ := ht 51 rfl
                  obtain ⟨_, q192, ⟨_, _, rfl, ⟨a_y193_sectors, c_y193_sectors, rfl, f_y193_sectors⟩, ⟨_, _, rfl, ⟨a_y193_pending, c_y193_pending, rfl, f_y193_pending⟩, ⟨_, _, rfl, ⟨rfl, r_y193_left⟩, rfl⟩⟩⟩⟩ := h191
                  refine StepOp_g rfl (ht 47 rfl) (op_call Try.call17 (c17_overflightref44_Same (O := ks (ents g ++ [(some b64, Obj.cells [(Value.slice a_y62_sectors new_2.1.sectors.length c_y62_sectors), (Value.slice a_y62_pending new_2.1.pending.length c_y62_pending), (Value.int .i64 new_2.1.left), (Value.bool new_2.1.stopped)].toArray 25), (some b43, Obj.cells [(Value.slice a_y41_sectors new_1.1.sectors.length c_y41_sectors), (Value.slice a_y41_pending new_1.1.pending.length c_y41_pending), (Value.int .i64 new_1.1.left), (Value.bool new_1.1.stopped)].toArray 25), (some b1, Obj.cells [(Value.slice a_d_sectors d.sectors.length c_d_sectors), (Value.slice a_d_pending d.pending.length c_d_pending), (Value.int .i64 d.left), (Value.bool d.stopped)].toArray 25)]) O) (a := restart_1) (b := restart_2) hi.ltw f_y190_sectors f_y190_pending r_y190_left f_y193_sectors f_y193_pending r_y193_left hv194) (by simp only [List.map, Array.toList, (show ev _ (.tmp 49) = _ from q189), (show ev _ (.tmp 51) = _ from q192)] <;> rfl) ?_)
                  rintro v195 w196 ⟨hx197, h198⟩
                  exact Goes.call hi hx197 h198
                refine Dw_eq (Value.bool same_2) (fun ρ200 w201 g hle hi ht => ?_) ?_
                ·
                  obtain ⟨-, hst, -⟩ := hle
                  have h203 : Vr.vd vB _ _ _ _ := ht 52 rfl
                  have q204 : _ = (Value.bool same_2) := h203
                  refine StepOp_plain (op_pick_t (v := (Value.bool same_2)) (ht 47 rfl) q204 ?_)
                  exact Goes.same hi rfl
                refine Dw_nil fun w210 g211 hl212 hi213 => ?_
                obtain ⟨-, hst214, -⟩ := hl212
                obtain ⟨hs216, p215⟩ := Step.nx hi213
                rintro _ rfl
                rintro v217 h218
                replace h218 : Vr.vd vB _ _ _ _ := h218
                obtain rfl := h218
                rintro v220 h221
                replace h221 : Vr.vd (vA rXDisk) _ _ _ _ := h221
                obtain ⟨_, rfl, ⟨_, _, rfl, ⟨a_y222_sectors, c_y222_sectors, rfl, f_y222_sectors⟩, ⟨_, _, rfl, ⟨a_y222_pending, c_y222_pending, rfl, f_y222_pending⟩, ⟨_, _, rfl, ⟨rfl, r_y222_left⟩, rfl⟩⟩⟩⟩ := h221
                rintro _ rfl
                rintro v223 h224
                replace h224 : Vr.vd (vA rXDisk) _ _ _ _ := h224
                obtain ⟨_, rfl, ⟨_, _, rfl, ⟨a_y225_sectors, c_y225_sectors, rfl, f_y225_sectors⟩, ⟨_, _, rfl, ⟨a_y225_pending, c_y225_pending, rfl, f_y225_pending⟩, ⟨_, _, rfl, ⟨rfl, r_y225_left⟩, rfl⟩⟩⟩⟩ := h224
                rintro _ rfl
                rintro _ rfl
                rintro _ rfl
                rintro _ rfl
                rintro v226 h227
                replace h227 : Vr.vd (vI .i64) _ _ _ _ := h227
                obtain ⟨rfl, r_y228⟩ := h227
                rintro _ rfl
                rintro v229 h230
                replace h230 : Vr.vd (vI .i64) _ _ _ _ := h230
                obtain ⟨rfl, r_y231⟩ := h230
                rintro _ rfl
                rintro _ rfl
                rintro _ rfl
                rintro _ rfl
                rintro _ rfl
                rintro _ rfl
                rintro _ rfl
                rintro v232 h233
                replace h233 : Vr.vd vB _ _ _ _ := h233
                obtain rfl := h233
                rintro _ rfl
                rintro _ rfl
                have p235 : Step (ks [(some b64, Obj.cells [(Value.slice a_y62_sectors new_2.1.sectors.length c_y62_sectors), (Value.slice a_y62_pending new_2.1.pending.length c_y62_pending), (Value.int .i64 new_2.1.left), (Value.bool new_2.1.stopped)].toArray 25), (some b43, Obj.cells [(Value.slice a_y41_sectors new_1.1.sectors.length c_y41_sectors), (Value.slice a_y41_pending new_1.1.pending.length c_y41_pending), (Value.int .i64 new_1.1.left), (Value.bool new_1.1.stopped)].toArray 25), (some b1, Obj.cells [(Value.slice a_d_sectors d.sectors.length c_d_sectors), (Value.slice a_d_pending d.pending.length c_d_pending), (Value.int .i64 d.left), (Value.bool d.stopped)].toArray 25)] O) w69 (ks [(some b64, Obj.cells [(Value.slice a_y62_sectors new_2.1.sectors.length c_y62_sectors), (Value.slice a_y62_pending new_2.1.pending.length c_y62_pending), (Value.int .i64 new_2.1.left), (Value.bool new_2.1.stopped)].toArray 25), (some b43, Obj.cells [(Value.slice a_y41_sectors new_1.1.sectors.length c_y41_sectors), (Value.slice a_y41_pending new_1.1.pending.length c_y41_pending), (Value.int .i64 new_1.1.left), (Value.bool new_1.1.stopped)].toArray 25), (some b1, Obj.cells [(Value.slice a_d_sectors d.sectors.length c_d_sectors), (Value.slice a_d_pending d.pending.length c_d_pending), (Value.int .i64 d.left), (Value.bool d.stopped)].toArray 25)] O) w210 := hst214.trans p215
                replace f_y222_sectors := f_y222_sectors.step p215
                replace f_y222_pending := f_y222_pending.step p215
                replace f_y225_sectors := f_y225_sectors.step p215
                replace f_y225_pending := f_y225_pending.step p215
                replace f_d_sectors := f_d_sectors.step p235
                replace f_d_pending := f_d_pending.step p235
                replace f_y41_sectors := f_y41_sectors.step p235
                replace f_y41_pending := f_y41_pending.step p235
                replace f_y62_sectors := f_y62_sectors.step p235
                replace f_y62_pending := f_y62_pending.step p235
                replace ch82 := ch82.trans p235
                clear p235 hs71
                refine Rg_op rfl (op_assign (v := (Value.bool same_2)) rfl ?_)
                refine Rg_nil ?_
                exact hK76 _ _ ⟨same_2, _, rfl, ⟨(by repeat (first | with_reducible exact Out.refl _ _ | refine Out.upd ?_ rfl | refine Out.updL ?_ rfl | refine Out.mix' ?_ rfl | exact Out.refl _ _)), rfl, rfl, trivial⟩, ch82, hs216, hm⟩
              ·
                replace hm := bif_f hm hg160
                refine Dw_skip (fun _ _ _ ht => wanted_x rfl (ht 47 rfl) rfl) ?_
                refine Dw_skip (fun _ _ _ ht => wanted_x rfl (ht 47 rfl) rfl) ?_
                refine Dw_skip (fun _ _ _ ht => wanted_x rfl (ht 47 rfl) rfl) ?_
                refine Dw_skip (fun _ _ _ ht => wanted_x rfl (ht 47 rfl) rfl) ?_
                refine Dw_skip (fun _ _ _ ht => wanted_x rfl (ht 47 rfl) rfl) ?_
                refine Dw_eq (Value.bool false) (fun ρ236 w237 g hle hi ht => ?_) ?_
                ·
                  obtain ⟨-, hst, -⟩ := hle
                  refine StepOp_plain (op_pick_f (v := (Value.bool false)) (ht 47 rfl) rfl ?_)
                  exact Goes.same hi rfl
                refine Dw_nil fun w243 g244 hl245 hi246 => ?_
                obtain ⟨-, hst247, -⟩ := hl245
                obtain ⟨hs249, p248⟩ := Step.nx hi246
                rintro _ rfl
                rintro _ rfl
                rintro _ rfl
                rintro _ rfl
                rintro _ rfl
                rintro _ rfl
                rintro _ rfl
                rintro _ rfl
                rintro _ rfl
                rintro v250 h251
                replace h251 : Vr.vd (vI .i64) _ _ _ _ := h251
                obtain ⟨rfl, r_y252⟩ := h251
                rintro _ rfl
                rintro v253 h254
                replace h254 : Vr.vd (vI .i64) _ _ _ _ := h254
                obtain ⟨rfl, r_y255⟩ := h254
                rintro _ rfl
                rintro _ rfl
                rintro _ rfl
                rintro _ rfl
                rintro _ rfl
                rintro _ rfl
                rintro _ rfl
                rintro v256 h257
                replace h257 : Vr.vd vB _ _ _ _ := h257
                obtain rfl := h257
                rintro _ rfl
                rintro _ rfl
                have p259 : Step (ks [(some b64, Obj.cells [(Value.slice a_y62_sectors new_2.1.sectors.length c_y62_sectors), (Value.slice a_y62_pending new_2.1.pending.length c_y62_pending), (Value.int .i64 new_2.1.left), (Value.bool new_2.1.stopped)].toArray 25), (some b43, Obj.cells [(Value.slice a_y41_sectors new_1.1.sectors.length c_y41_sectors), (Value.slice a_y41_pending new_1.1.pending.length c_y41_pending), (Value.int .i64 new_1.1.left), (Value.bool new_1.1.stopped)].toArray 25), (some b1, Obj.cells [(Value.slice a_d_sectors d.sectors.length c_d_sectors), (Value.slice a_d_pending d.pending.length c_d_pending), (Value.int .i64 d.left), (Value.bool d.stopped)].toArray 25)] O) w69 (ks [(some b64, Obj.cells [(Value.slice a_y62_sectors new_2.1.sectors.length c_y62_sectors), (Value.slice a_y62_pending new_2.1.pending.length c_y62_pending), (Value.int .i64 new_2.1.left), (Value.bool new_2.1.stopped)].toArray 25), (some b43, Obj.cells [(Value.slice a_y41_sectors new_1.1.sectors.length c_y41_sectors), (Value.slice a_y41_pending new_1.1.pending.length c_y41_pending), (Value.int .i64 new_1.1.left), (Value.bool new_1.1.stopped)].toArray 25), (some b1, Obj.cells [(Value.slice a_d_sectors d.sectors.length c_d_sectors), (Value.slice a_d_pending d.pending.length c_d_pending), (Value.int .i64 d.left), (Value.bool d.stopped)].toArray 25)] O) w243 := hst247.trans p248
                replace f_d_sectors := f_d_sectors.step p259
                replace f_d_pending := f_d_pending.step p259
                replace f_y41_sectors := f_y41_sectors.step p259
                replace f_y41_pending := f_y41_pending.step p259
                replace f_y62_sectors := f_y62_sectors.step p259
                replace f_y62_pending := f_y62_pending.step p259
                replace ch82 := ch82.trans p259
                clear p259 hs71
                refine Rg_op rfl (op_assign (v := (Value.bool false)) rfl ?_)
                refine Rg_nil ?_
                exact hK76 _ _ ⟨false, _, rfl, ⟨(by repeat (first | with_reducible exact Out.refl _ _ | refine Out.upd ?_ rfl | refine Out.updL ?_ rfl | refine Out.mix' ?_ rfl | exact Out.refl _ _)), rfl, rfl, trivial⟩, ch82, hs249, hm⟩
            ·
              replace hm := bif_f hm hg120
              refine Dw_skip (fun _ _ _ ht => wanted_x rfl (ht 40 rfl) rfl) ?_
              refine Dw_skip (fun _ _ _ ht => wanted_x rfl (ht 40 rfl) rfl) ?_
              refine Dw_skip (fun _ _ _ ht => wanted_x rfl (ht 40 rfl) rfl) ?_
              refine Dw_skip (fun _ _ _ ht => wanted_x rfl (ht 40 rfl) rfl) ?_
              refine Dw_skip (fun _ _ _ ht => wanted_x rfl (ht 40 rfl) rfl) ?_
              refine Dw_eq (Value.bool false) (fun ρ260 w261 g hle hi ht => ?_) ?_
              ·
                obtain ⟨-, hst, -⟩ := hle
                refine StepOp_plain (op_pick_f (v := (Value.bool false)) (ht 40 rfl) rfl ?_)
                exact Goes.same hi rfl
              refine Dw_eq (Value.bool false) (fun ρ263 w264 g hle hi ht => ?_) ?_
              ·
                obtain ⟨-, hst, -⟩ := hle
                refine StepOp_plain (op_move (v := (Value.bool false)) (ht 46 rfl) ?_)
                exact Goes.same hi rfl
              refine Dw_skip (fun _ _ _ ht => wanted_x rfl (ht 47 rfl) rfl) ?_
              refine Dw_skip (fun _ _ _ ht => wanted_x rfl (ht 47 rfl) rfl) ?_
              refine Dw_skip (fun _ _ _ ht => wanted_x rfl (ht 47 rfl) rfl) ?_
              refine Dw_skip (fun _ _ _ ht => wanted_x rfl (ht 47 rfl) rfl) ?_
              refine Dw_skip (fun _ _ _ ht => wanted_x rfl (ht 47 rfl) rfl) ?_
              refine Dw_eq (Value.bool false) (fun ρ266 w267 g hle hi ht => ?_) ?_
              ·
                obtain ⟨-, hst, -⟩ := hle
                refine StepOp_plain (op_pick_f (v := (Value.bool false)) (ht 47 rfl) rfl ?_)
                exact Goes.same hi rfl
              refine Dw_nil fun w273 g274 hl275 hi276 => ?_
              obtain ⟨-, hst277, -⟩ := hl275
              obtain ⟨hs279, p278⟩ := Step.nx hi276
              rintro _ rfl
              rintro _ rfl
              rintro _ rfl
              rintro _ rfl
              rintro _ rfl
              rintro _ rfl
              rintro _ rfl
              rintro _ rfl
              rintro _ rfl
              rintro _ rfl
              rintro _ rfl
              rintro _ rfl
              rintro _ rfl
              rintro _ rfl
              rintro _ rfl
              rintro _ rfl
              rintro _ rfl
              rintro _ rfl
              rintro _ rfl
              rintro v280 h281
              replace h281 : Vr.vd vB _ _ _ _ := h281
              obtain rfl := h281
              rintro _ rfl
              rintro _ rfl
              have p283 : Step (ks [(some b64, Obj.cells [(Value.slice a_y62_sectors new_2.1.sectors.length c_y62_sectors), (Value.slice a_y62_pending new_2.1.pending.length c_y62_pending), (Value.int .i64 new_2.1.left), (Value.bool new_2.1.stopped)].toArray 25), (some b43, Obj.cells [(Value.slice a_y41_sectors new_1.1.sectors.length c_y41_sectors), (Value.slice a_y41_pending new_1.1.pending.length c_y41_pending), (Value.int .i64 new_1.1.left), (Value.bool new_1.1.stopped)].toArray 25), (some b1, Obj.cells [(Value.slice a_d_sectors d.sectors.length c_d_sectors), (Value.slice a_d_pending d.pending.length c_d_pending), (Value.int .i64 d.left), (Value.bool d.stopped)].toArray 25)] O) w69 (ks [(some b64, Obj.cells [(Value.slice a_y62_sectors new_2.1.sectors.length c_y62_sectors), (Value.slice a_y62_pending new_2.1.pending.length c_y62_pending), (Value.int .i64 new_2.1.left), (Value.bool new_2.1.stopped)].toArray 25), (some b43, Obj.cells [(Value.slice a_y41_sectors new_1.1.sectors.length c_y41_sectors), (Value.slice a_y41_pending new_1.1.pending.length c_y41_pending), (Value.int .i64 new_1.1.left), (Value.bool new_1.1.stopped)].toArray 25), (some b1, Obj.cells [(Value.slice a_d_sectors d.sectors.length c_d_sectors), (Value.slice a_d_pending d.pending.length c_d_pending), (Value.int .i64 d.left), (Value.bool d.stopped)].toArray 25)] O) w273 := hst277.trans p278
              replace f_d_sectors := f_d_sectors.step p283
              replace f_d_pending := f_d_pending.step p283
              replace f_y41_sectors := f_y41_sectors.step p283
              replace f_y41_pending := f_y41_pending.step p283
              replace f_y62_sectors := f_y62_sectors.step p283
              replace f_y62_pending := f_y62_pending.step p283
              replace ch82 := ch82.trans p283
              clear p283 hs71
              refine Rg_op rfl (op_assign (v := (Value.bool false)) rfl ?_)
              refine Rg_nil ?_
              exact hK76 _ _ ⟨false, _, rfl, ⟨(by repeat (first | with_reducible exact Out.refl _ _ | refine Out.upd ?_ rfl | refine Out.updL ?_ rfl | refine Out.mix' ?_ rfl | exact Out.refl _ _)), rfl, rfl, trivial⟩, ch82, hs279, hm⟩
          ·
            replace hm := bif_f hm hg104
            refine Dw_skip (fun _ _ _ ht => wanted_x rfl (ht 35 rfl) rfl) ?_
            refine Dw_skip (fun _ _ _ ht => wanted_x rfl (ht 35 rfl) rfl) ?_
            refine Dw_skip (fun _ _ _ ht => wanted_x rfl (ht 35 rfl) rfl) ?_
            refine Dw_eq (Value.bool false) (fun ρ284 w285 g hle hi ht => ?_) ?_
            ·
              obtain ⟨-, hst, -⟩ := hle
              refine StepOp_plain (op_pick_f (v := (Value.bool false)) (ht 35 rfl) rfl ?_)
              exact Goes.same hi rfl
            refine Dw_eq (Value.bool false) (fun ρ287 w288 g hle hi ht => ?_) ?_
            ·
              obtain ⟨-, hst, -⟩ := hle
              refine StepOp_plain (op_move (v := (Value.bool false)) (ht 39 rfl) ?_)
              exact Goes.same hi rfl
            refine Dw_skip (fun _ _ _ ht => wanted_x rfl (ht 40 rfl) rfl) ?_
            refine Dw_skip (fun _ _ _ ht => wanted_x rfl (ht 40 rfl) rfl) ?_
            refine Dw_skip (fun _ _ _ ht => wanted_x rfl (ht 40 rfl) rfl) ?_
            refine Dw_skip (fun _ _ _ ht => wanted_x rfl (ht 40 rfl) rfl) ?_
            refine Dw_skip (fun _ _ _ ht => wanted_x rfl (ht 40 rfl) rfl) ?_
            refine Dw_eq (Value.bool false) (fun ρ290 w291 g hle hi ht => ?_) ?_
            ·
              obtain ⟨-, hst, -⟩ := hle
              refine StepOp_plain (op_pick_f (v := (Value.bool false)) (ht 40 rfl) rfl ?_)
              exact Goes.same hi rfl
            refine Dw_eq (Value.bool false) (fun ρ293 w294 g hle hi ht => ?_) ?_
            ·
              obtain ⟨-, hst, -⟩ := hle
              refine StepOp_plain (op_move (v := (Value.bool false)) (ht 46 rfl) ?_)
              exact Goes.same hi rfl
            refine Dw_skip (fun _ _ _ ht => wanted_x rfl (ht 47 rfl) rfl) ?_
            refine Dw_skip (fun _ _ _ ht => wanted_x rfl (ht 47 rfl) rfl) ?_
            refine Dw_skip (fun _ _ _ ht => wanted_x rfl (ht 47 rfl) rfl) ?_
            refine Dw_skip (fun _ _ _ ht => wanted_x rfl (ht 47 rfl) rfl) ?_
            refine Dw_skip (fun _ _ _ ht => wanted_x rfl (ht 47 rfl) rfl) ?_
            refine Dw_eq (Value.bool false) (fun ρ296 w297 g hle hi ht => ?_) ?_
            ·
              obtain ⟨-, hst, -⟩ := hle
              refine StepOp_plain (op_pick_f (v := (Value.bool false)) (ht 47 rfl) rfl ?_)
              exact Goes.same hi rfl
            refine Dw_nil fun w303 g304 hl305 hi306 => ?_
            obtain ⟨-, hst307, -⟩ := hl305
            obtain ⟨hs309, p308⟩ := Step.nx hi306
            rintro _ rfl
            rintro _ rfl
            rintro _ rfl
            rintro _ rfl
            rintro _ rfl
            rintro _ rfl
            rintro _ rfl
            rintro _ rfl
            rintro _ rfl
            rintro _ rfl
            rintro _ rfl
            rintro _ rfl
            rintro _ rfl
            rintro _ rfl
            rintro _ rfl
            rintro _ rfl
            rintro _ rfl
            rintro _ rfl
            rintro _ rfl
            rintro v310 h311
            replace h311 : Vr.vd vB _ _ _ _ := h311
            obtain rfl := h311
            rintro _ rfl
            rintro _ rfl
            have p313 : Step (ks [(some b64, Obj.cells [(Value.slice a_y62_sectors new_2.1.sectors.length c_y62_sectors), (Value.slice a_y62_pending new_2.1.pending.length c_y62_pending), (Value.int .i64 new_2.1.left), (Value.bool new_2.1.stopped)].toArray 25), (some b43, Obj.cells [(Value.slice a_y41_sectors new_1.1.sectors.length c_y41_sectors), (Value.slice a_y41_pending new_1.1.pending.length c_y41_pending), (Value.int .i64 new_1.1.left), (Value.bool new_1.1.stopped)].toArray 25), (some b1, Obj.cells [(Value.slice a_d_sectors d.sectors.length c_d_sectors), (Value.slice a_d_pending d.pending.length c_d_pending), (Value.int .i64 d.left), (Value.bool d.stopped)].toArray 25)] O) w69 (ks [(some b64, Obj.cells [(Value.slice a_y62_sectors new_2.1.sectors.length c_y62_sectors), (Value.slice a_y62_pending new_2.1.pending.length c_y62_pending), (Value.int .i64 new_2.1.left), (Value.bool new_2.1.stopped)].toArray 25), (some b43, Obj.cells [(Value.slice a_y41_sectors new_1.1.sectors.length c_y41_sectors), (Value.slice a_y41_pending new_1.1.pending.length c_y41_pending), (Value.int .i64 new_1.1.left), (Value.bool new_1.1.stopped)].toArray 25), (some b1, Obj.cells [(Value.slice a_d_sectors d.sectors.length c_d_sectors), (Value.slice a_d_pending d.pending.length c_d_pending), (Value.int .i64 d.left), (Value.bool d.stopped)].toArray 25)] O) w303 := hst307.trans p308
            replace f_d_sectors := f_d_sectors.step p313
            replace f_d_pending := f_d_pending.step p313
            replace f_y41_sectors := f_y41_sectors.step p313
            replace f_y41_pending := f_y41_pending.step p313
            replace f_y62_sectors := f_y62_sectors.step p313
            replace f_y62_pending := f_y62_pending.step p313
            replace ch82 := ch82.trans p313
            clear p313 hs71
            refine Rg_op rfl (op_assign (v := (Value.bool false)) rfl ?_)
            refine Rg_nil ?_
            exact hK76 _ _ ⟨false, _, rfl, ⟨(by repeat (first | with_reducible exact Out.refl _ _ | refine Out.upd ?_ rfl | refine Out.updL ?_ rfl | refine Out.mix' ?_ rfl | exact Out.refl _ _)), rfl, rfl, trivial⟩, ch82, hs309, hm⟩
    ·
      intro K21 hK21
      have ch314 := Step.refl (ks [(some b1, Obj.cells [(Value.slice a_d_sectors d.sectors.length c_d_sectors), (Value.slice a_d_pending d.pending.length c_d_pending), (Value.int .i64 d.left), (Value.bool d.stopped)].toArray 25)] O) w8
      refine Wp_region ?_  -- 3 law.go:36
      refine Rg_op rfl (op_move (v := (Value.int .i64 sectors)) rfl ?_)
      refine Rg_op rfl (op_gtr rfl rfl ?_)
      refine Rg_op rfl (op_move (v := (Value.bool (decide (60 < sectors)))) rfl ?_)
      refine Rg_case (fun hg315 => ?_) (fun hg315 => ?_)
      ·
        replace hm := bif_t hm hg315
        refine Rg_opg rfl rfl rfl (op_move (v := (Value.int .i64 sectors)) rfl ?_)
        refine Rg_opg rfl rfl rfl (op_leq rfl rfl ?_)
        refine Rg_op rfl (op_pick_t (v := (Value.bool (decide (sectors ≤ 4096)))) rfl rfl ?_)
        refine Rg_op rfl (op_move (v := (Value.bool (decide (sectors ≤ 4096)))) rfl ?_)
        refine Rg_case (fun hg316 => ?_) (fun hg316 => ?_)
        ·
          replace hm := bif_t hm hg316
          refine Rg_opx rfl (asB_ne rfl rfl) rfl ?_
          refine Rg_opx rfl (asB_ne rfl rfl) rfl ?_
          refine Rg_opx rfl (asB_ne rfl rfl) rfl ?_
          refine Rg_op rfl (op_pick_t (v := (Value.bool true)) rfl rfl ?_)
          refine Rg_nil ?_
          exact hK21 _ _ ⟨true, _, rfl, ⟨(by repeat (first | with_reducible exact Out.refl _ _ | refine Out.upd ?_ rfl | refine Out.updL ?_ rfl | refine Out.mix' ?_ rfl | exact Out.refl _ _)), rfl, rfl, trivial⟩, ch314, hs11, hm⟩
        ·
          replace hm := bif_f hm hg316
          refine Rg_opg rfl rfl rfl (op_loadA (cs := [(Value.slice a_d_sectors d.sectors.length c_d_sectors), (Value.slice a_d_pending d.pending.length c_d_pending), (Value.int .i64 d.left), (Value.bool d.stopped)]) (vs := [(Value.slice a_d_sectors d.sectors.length c_d_sectors), (Value.slice a_d_pending d.pending.length c_d_pending), (Value.int .i64 d.left), (Value.bool d.stopped)]) (i := 0) ty25 hs11 rfl rfl rfl rfl ?_)
          replace hm := bd hm; obtain ⟨few_1, hv317, hm⟩ := hm
          refine Rg_opg rfl rfl rfl (op_call Try.call14 (c14_overflightref44_Few (d := d) hs11.ltw f_d_sectors f_d_pending r_d_left hv317) rfl ?_)
          rintro v318 w319 ⟨hx320, h321⟩
          have hs322 := hs11.call hx320
          have p323 := Step.ext (O := ks [(some b1, Obj.cells [(Value.slice a_d_sectors d.sectors.length c_d_sectors), (Value.slice a_d_pending d.pending.length c_d_pending), (Value.int .i64 d.left), (Value.bool d.stopped)].toArray 25)] O) hx320
          clear hx320
          replace f_d_sectors := f_d_sectors.step p323
          replace f_d_pending := f_d_pending.step p323
          replace ch314 := ch314.trans p323
          clear p323 hs11
          obtain rfl := h321
          refine Rg_opg rfl rfl rfl (op_not rfl ?_)
          refine Rg_op rfl (op_pick_f (v := (Value.bool (!few_1))) rfl rfl ?_)
          refine Rg_nil ?_
          exact hK21 _ _ ⟨(!few_1), _, rfl, ⟨(by repeat (first | with_reducible exact Out.refl _ _ | refine Out.upd ?_ rfl | refine Out.updL ?_ rfl | refine Out.mix' ?_ rfl | exact Out.refl _ _)), rfl, rfl, trivial⟩, ch314, hs322, hm⟩
      ·
        replace hm := bif_f hm hg315
        refine Rg_opx rfl (asB_ne rfl rfl) rfl ?_
        refine Rg_opx rfl (asB_ne rfl rfl) rfl ?_
        refine Rg_op rfl (op_pick_f (v := (Value.bool false)) rfl rfl ?_)
        refine Rg_op rfl (op_move (v := (Value.bool false)) rfl ?_)
        refine Rg_opg rfl rfl rfl (op_loadA (cs := [(Value.slice a_d_sectors d.sectors.length c_d_sectors), (Value.slice a_d_pending d.pending.length c_d_pending), (Value.int .i64 d.left), (Value.bool d.stopped)]) (vs := [(Value.slice a_d_sectors d.sectors.length c_d_sectors), (Value.slice a_d_pending d.pending.length c_d_pending), (Value.int .i64 d.left), (Value.bool d.stopped)]) (i := 0) ty25 hs11 rfl rfl rfl rfl ?_)
        replace hm := bd hm; obtain ⟨few_2, hv325, hm⟩ := hm
        refine Rg_opg rfl rfl rfl (op_call Try.call14 (c14_overflightref44_Few (d := d) hs11.ltw f_d_sectors f_d_pending r_d_left hv325) rfl ?_)
        rintro v326 w327 ⟨hx328, h329⟩
        have hs330 := hs11.call hx328
        have p331 := Step.ext (O := ks [(some b1, Obj.cells [(Value.slice a_d_sectors d.sectors.length c_d_sectors), (Value.slice a_d_pending d.pending.length c_d_pending), (Value.int .i64 d.left), (Value.bool d.stopped)].toArray 25)] O) hx328
        clear hx328
        replace f_d_sectors := f_d_sectors.step p331
        replace f_d_pending := f_d_pending.step p331
        replace ch314 := ch314.trans p331
        clear p331 hs11
        obtain rfl := h329
        refine Rg_opg rfl rfl rfl (op_not rfl ?_)
        refine Rg_op rfl (op_pick_f (v := (Value.bool (!few_2))) rfl rfl ?_)
        refine Rg_nil ?_
        exact hK21 _ _ ⟨(!few_2), _, rfl, ⟨(by repeat (first | with_reducible exact Out.refl _ _ | refine Out.upd ?_ rfl | refine Out.updL ?_ rfl | refine Out.mix' ?_ rfl | exact Out.refl _ _)), rfl, rfl, trivial⟩, ch314, hs330, hm⟩

end Go.Fx


/- What the models of functions compute: loops over lists, checks, meetings. No program in sight. -/
set_option linter.unusedSimpArgs false
set_option linter.unusedVariables false
namespace Go.Fx
open Go Go.RowKit

section
variable {R α σ : Type}
@[simp] theorem jn_eq {κ : Type _} (k : κ) (f : κ → Option R) : jn k f = f k := rfl
theorem ck_eq {c : Prop} [Decidable c] {m : Option R} (h : c) : ck c m = m := if_pos h
@[simp] theorem ck_True {m : Option R} : ck True m = m := if_pos trivial
theorem wrapN {i : Nat} (h : i < 9223372036854775808) : IntKind.i64.wrap (i : Int) = (i : Int) := wrap_i64 (by omega) (by omega)
theorem wrapS {i : Nat} (h : i + 1 < 9223372036854775808) : IntKind.i64.wrap ((i : Int) + 1) = (i : Int) + 1 := wrap_i64 (by omega) (by omega)
theorem wrapA {i j : Nat} (h : i + j < 9223372036854775808) : IntKind.i64.wrap ((i : Int) + (j : Int)) = ((i + j : Nat) : Int) := (wrap_i64 (by omega) (by omega)).trans (by omega)
theorem wrapP {i : Nat} (h : i < 9223372036854775808) : IntKind.i64.wrap (((i + 1 : Nat) : Int) - 1) = (i : Int) := (wrap_i64 (by omega) (by omega)).trans (by omega)

/-- a loop that goes up an index over a list: L fuel index state -/
theorem up_list {L : Nat → Int → σ → Option R} (I : Nat → σ → Prop) (F : Nat → List α → σ → Option R) (l : List α) (hl : l.length < 9223372036854775807)
    (hE : ∀ n s, I l.length s → L (n + 1) (l.length : Nat) s = F l.length [] s)
    (hS : ∀ n (i : Nat) s x t, i < l.length → l[i]? = some x → IntKind.i64.wrap ((i : Int) + 1) = (i : Int) + 1 → I i s →
      (∀ s, I (i + 1) s → L n ((i : Int) + 1) s = F (i + 1) t s) → L (n + 1) (i : Int) s = F i (x :: t) s) :
    ∀ (fuel : Nat) s, l.length < fuel → I 0 s → L fuel 0 s = F 0 l s := by
  have main : ∀ (t : List α) (i fuel : Nat) s, l.drop i = t → i ≤ l.length → l.length - i < fuel → I i s → L fuel (i : Int) s = F i t s := by
    intro t
    induction t with
    | nil =>
      intro i fuel s hd hi hf hI
      have : i = l.length := by have := congrArg List.length hd; simp at this; omega
      subst this
      obtain ⟨n, rfl⟩ : ∃ n, fuel = n + 1 := ⟨fuel - 1, by omega⟩
      exact hE n s hI
    | cons x t ih =>
      intro i fuel s hd hi hf hI
      have hlt : i < l.length := by have := congrArg List.length hd; simp at this; omega
      obtain ⟨n, rfl⟩ : ∃ n, fuel = n + 1 := ⟨fuel - 1, by omega⟩
      have hx : l[i]? = some x := by rw [← List.head?_drop, hd]; rfl
      refine hS n i s x t hlt hx (wrapS (by omega)) hI fun s' hI' => (ih (i + 1) n s' ?_ (by omega) (by omega) hI')
      rw [← List.drop_drop, hd]; rfl
  intro fuel s hf hI
  exact main l 0 fuel s rfl (by omega) (by omega) hI

theorem getD_of {l : List α} {i : Nat} {x d : α} (h : l[i]? = some x) : l.getD i d = x := by simp [List.getD, h]

/-- a loop that goes up an index over a list, no state -/
theorem up_list0 {B : (Int → Option R) → Int → Option R} (F : List α → Option R) (l : List α) (hl : l.length < 9223372036854775807)
    (hE : ∀ sf, B sf (l.length : Nat) = F [])
    (hS : ∀ sf (i : Nat) x t, i < l.length → l[i]? = some x → IntKind.i64.wrap ((i : Int) + 1) = (i : Int) + 1 →
      sf ((i : Int) + 1) = F t → B sf (i : Int) = F (x :: t))
    {fuel : Nat} (hf : l.length < fuel) : loop1 B fuel 0 = F l := by
  refine up_list (L := fun n i (_ : Unit) => loop1 B n i) (fun _ _ => True) (fun _ t _ => F t) l hl ?_ ?_ fuel () hf trivial
  · intro n _ _; show loop1 B (n + 1) _ = _; rw [loop1_succ]; exact hE _
  · intro n i _ x t h1 h2 h3 _ ih; show loop1 B (n + 1) _ = _; rw [loop1_succ]; exact hS _ i x t h1 h2 h3 (ih () trivial)
/-- index first, then a state -/
theorem up_listA {B : (Int → σ → Option R) → Int → σ → Option R} (I : Nat → σ → Prop) (F : Nat → List α → σ → Option R) (l : List α) (hl : l.length < 9223372036854775807)
    (hE : ∀ sf s, I l.length s → B sf (l.length : Nat) s = F l.length [] s)
    (hS : ∀ sf (i : Nat) s x t, i < l.length → l[i]? = some x → IntKind.i64.wrap ((i : Int) + 1) = (i : Int) + 1 → I i s →
      (∀ s, I (i + 1) s → sf ((i : Int) + 1) s = F (i + 1) t s) → B sf (i : Int) s = F i (x :: t) s)
    {fuel : Nat} {s : σ} (hf : l.length < fuel) (hI : I 0 s) : loop2 B fuel 0 s = F 0 l s := by
  refine up_list (L := fun n i s => loop2 B n i s) I F l hl ?_ ?_ fuel s hf hI
  · intro n s h; show loop2 B (n + 1) _ _ = _; rw [loop2_succ]; exact hE _ _ h
  · intro n i s x t h1 h2 h3 h4 ih; show loop2 B (n + 1) _ _ = _; rw [loop2_succ]; exact hS _ i s x t h1 h2 h3 h4 ih
/-- a state first, then the index -/
theorem up_listB {B : (σ → Int → Option R) → σ → Int → Option R} (I : Nat → σ → Prop) (F : Nat → List α → σ → Option R) (l : List α) (hl : l.length < 9223372036854775807)
    (hE : ∀ sf s, I l.length s → B sf s (l.length : Nat) = F l.length [] s)
    (hS : ∀ sf (i : Nat) s x t, i < l.length → l[i]? = some x → IntKind.i64.wrap ((i : Int) + 1) = (i : Int) + 1 → I i s →
      (∀ s, I (i + 1) s → sf s ((i : Int) + 1) = F (i + 1) t s) → B sf s (i : Int) = F i (x :: t) s)
    {fuel : Nat} {s : σ} (hf : l.length < fuel) (hI : I 0 s) : loop2 B fuel s 0 = F 0 l s := by
  refine up_list (L := fun n i s => loop2 B n s i) I F l hl ?_ ?_ fuel s hf hI
  · intro n s h; show loop2 B (n + 1) _ _ = _; rw [loop2_succ]; exact hE _ _ h
  · intro n i s x t h1 h2 h3 h4 ih; show loop2 B (n + 1) _ _ = _; rw [loop2_succ]; exact hS _ i s x t h1 h2 h3 h4 ih

/-- the same, where the answer needs the index -/
theorem up_listI {B : (Int → Option R) → Int → Option R} (F : Nat → List α → Option R) (l : List α) (hl : l.length < 9223372036854775807)
    (hE : ∀ sf, B sf (l.length : Nat) = F l.length [])
    (hS : ∀ sf (i : Nat) x t, i < l.length → l[i]? = some x → IntKind.i64.wrap ((i : Int) + 1) = (i : Int) + 1 →
      sf ((i : Int) + 1) = F (i + 1) t → B sf (i : Int) = F i (x :: t))
    {fuel : Nat} (hf : l.length < fuel) : loop1 B fuel 0 = F 0 l := by
  refine up_list (L := fun n i (_ : Unit) => loop1 B n i) (fun _ _ => True) (fun i t _ => F i t) l hl ?_ ?_ fuel () hf trivial
  · intro n _ _; show loop1 B (n + 1) _ = _; rw [loop1_succ]; exact hE _
  · intro n i _ x t h1 h2 h3 _ ih; show loop1 B (n + 1) _ = _; rw [loop1_succ]; exact hS _ i x t h1 h2 h3 (ih () trivial)
end
end Go.Fx


/- The plain laws of chapter 44. -/
set_option linter.unusedSimpArgs false
set_option linter.unusedVariables false
namespace Go.Fx
open Go Go.RowKit
theorem sane_eq : m13_overflightlaw44_sane = some true := by kernel_rfl

/-- the first index from i where g holds, or -1 -/
def fidx {α} (g : α → Bool) : Nat → List α → Int
  | _, [] => -1
  | i, x :: t => bif g x then (i : Int) else fidx g (i + 1) t
theorem fidx_any {α} (g : α → Bool) (l : List α) (i : Nat) : decide (0 ≤ fidx g i l) = l.any g := by
  induction l generalizing i with
  | nil => rfl
  | cons x t ih => cases h : g x <;> simp [fidx, h, ih]
theorem m44_eq (s : List XWrite) (f : XWrite → Option Bool) (g : XWrite → Bool) (hf : ∀ x, f x = some (g x)) (hl : s.length < 9223372036854775807) : m44_api_Write_ s f = some (s.any g) := by
  have : m65_api_Write_ s f = some (fidx g 0 s) := by
    unfold m65_api_Write_
    refine up_listI (fun i t => some (fidx g i t)) s hl ?_ ?_ (by omega)
    · intro sf; unfold m65_api_Write__B0; simp [fidx]
    · intro sf i x t h1 h2 h3 ih; unfold m65_api_Write__B0; obtain ⟨_, rfl⟩ := List.getElem?_eq_some_iff.1 h2; cases h : g s[i] <;> simp [h1, h3, ih, hf, h, fidx, ck_eq]
  unfold m44_api_Write_; rw [this]; simp [fidx_any]
theorem m45_eq (s : List (List UInt8)) (f : List UInt8 → Option Bool) (g : List UInt8 → Bool) (hf : ∀ x, f x = some (g x)) (hl : s.length < 9223372036854775807) : m45_slices_ContainsFuncbyte_byte_ s f = some (s.any g) := by
  have : m66_slices_IndexFuncbyte_byte_ s f = some (fidx g 0 s) := by
    unfold m66_slices_IndexFuncbyte_byte_
    refine up_listI (fun i t => some (fidx g i t)) s hl ?_ ?_ (by omega)
    · intro sf; unfold m66_slices_IndexFuncbyte_byte__B0; simp [fidx]
    · intro sf i x t h1 h2 h3 ih; unfold m66_slices_IndexFuncbyte_byte__B0; obtain ⟨_, rfl⟩ := List.getElem?_eq_some_iff.1 h2; cases h : g s[i] <;> simp [h1, h3, ih, hf, h, fidx, ck_eq]
  unfold m45_slices_ContainsFuncbyte_byte_; rw [this]; simp [fidx_any]

def secBad (b : List UInt8) : Bool := !decide (b.length = 128)
def wrBad (n : Nat) (w : XWrite) : Bool := decide (w.at_ < 0) || decide ((n : Int) ≤ w.at_) || !decide (w.data.length = 128)
/-- what Check answers -/
def chk (d : XDisk) : Bool := !(decide ((d.sectors.length : Int) < 1) || decide (4096 < (d.sectors.length : Int)) || decide (4096 < (d.pending.length : Int)) || decide (d.left < -1) || decide (65536 < d.left) || d.pending.any (wrBad d.sectors.length) || d.sectors.any secBad)
def lim : Nat := 140737488351232
structure Few' (d : XDisk) : Prop where
  s : d.sectors.length < 9223372036854775807
  p : d.pending.length < 9223372036854775807
theorem m18_eq (d : XDisk) (h : Few' d) : m18_disk_Check d = some (bif chk d then 0 else 440) := by
  unfold m18_disk_Check
  rw [m44_eq _ _ (wrBad d.sectors.length) _ h.p, m45_eq _ _ secBad _ h.s]
  · unfold chk
    simp only [jn_eq, Option.bind_some]
    cases decide ((d.sectors.length : Int) < 1) <;> cases decide (4096 < (d.sectors.length : Int)) <;> cases decide (4096 < (d.pending.length : Int)) <;> cases decide (d.left < -1) <;> cases decide (65536 < d.left) <;> cases d.pending.any (wrBad d.sectors.length) <;> cases d.sectors.any secBad <;> rfl
  · intro x; simp [m46_disk_Check_2, m43_disk_isSector, secBad]; omega
  · intro w; simp only [m42_disk_Check_1, m43_disk_isSector, wrBad]
    by_cases h1 : w.at_ < 0 <;> by_cases h2 : (d.sectors.length : Int) ≤ w.at_ <;> by_cases h3 : w.data.length = 128 <;> simp [h1, h2, h3] <;> omega
theorem m19_eq (d : XDisk) (h : Few' d) : m19_overflightref44_Check d = some (bif chk d then 0 else 440) := by
  unfold m19_overflightref44_Check
  have e1 : loop1 (m19_overflightref44_Check_B1 d) (((d.pending.length : Int) - 0).toNat + 1) 0 = some (bif d.pending.any (wrBad d.sectors.length) then 440 else 0) := by
    refine up_list0 (fun t => some (bif t.any (wrBad d.sectors.length) then 440 else 0)) d.pending h.p ?_ ?_ (by simp)
    · intro sf; simp [m19_overflightref44_Check_B1]
    · intro sf i x t h1 h2 h3 ih; obtain ⟨_, rfl⟩ := List.getElem?_eq_some_iff.1 h2
      unfold m19_overflightref44_Check_B1
      simp only [wrBad, List.any_cons]
      have k4 : ((d.pending[i].data.length : Int) = 128) = (d.pending[i].data.length = 128) := by apply propext; omega
      by_cases k1 : (d.pending[i]).at_ < 0 <;> by_cases k2 : (d.sectors.length : Int) ≤ (d.pending[i]).at_ <;> by_cases k3 : (d.pending[i]).data.length = 128 <;> simp [h1, h3, ih, k1, k2, k3, k4, ck_eq, wrBad]
  have e0 : loop1 (m19_overflightref44_Check_B0 d) (((d.sectors.length : Int) - 0).toNat + 1) 0 = some (bif d.sectors.any secBad then 440 else bif d.pending.any (wrBad d.sectors.length) then 440 else 0) := by
    refine up_list0 (fun t => some (bif t.any secBad then 440 else bif d.pending.any (wrBad d.sectors.length) then 440 else 0)) d.sectors h.s ?_ ?_ (by simp)
    · intro sf; unfold m19_overflightref44_Check_B0; rw [e1]; simp
    · intro sf i x t h1 h2 h3 ih; obtain ⟨_, rfl⟩ := List.getElem?_eq_some_iff.1 h2
      unfold m19_overflightref44_Check_B0
      rw [e1]
      have k4 : ((d.sectors[i].length : Int) = 128) = (d.sectors[i].length = 128) := by apply propext; omega
      by_cases k3 : (d.sectors[i]).length = 128 <;> simp [h1, h3, ih, k3, k4, ck_eq, secBad]
  rw [e0]
  unfold chk
  simp only [jn_eq, Option.bind_some]
  cases decide ((d.sectors.length : Int) < 1) <;> cases decide (4096 < (d.sectors.length : Int)) <;> cases decide (4096 < (d.pending.length : Int)) <;> cases decide (d.left < -1) <;> cases decide (65536 < d.left) <;> cases d.pending.any (wrBad d.sectors.length) <;> cases d.sectors.any secBad <;> rfl
theorem m17_refl (a : XDisk) (h : Few' a) : m17_overflightref44_Same a a = some true := by
  unfold m17_overflightref44_Same
  have e1 : loop1 (m17_overflightref44_Same_B1 a a) (((a.pending.length : Int) - 0).toNat + 1) 0 = some true := by
    refine up_list0 (fun t => some true) a.pending h.p ?_ ?_ (by simp)
    · intro sf; simp [m17_overflightref44_Same_B1]
    · intro sf i x t h1 h2 h3 ih; obtain ⟨_, rfl⟩ := List.getElem?_eq_some_iff.1 h2
      unfold m17_overflightref44_Same_B1
      simp [h1, h3, ih, ck_eq]
  have e0 : loop1 (m17_overflightref44_Same_B0 a a) (((a.sectors.length : Int) - 0).toNat + 1) 0 = some true := by
    refine up_list0 (fun t => some true) a.sectors h.s ?_ ?_ (by simp)
    · intro sf; unfold m17_overflightref44_Same_B0; rw [e1]; simp
    · intro sf i x t h1 h2 h3 ih; obtain ⟨_, rfl⟩ := List.getElem?_eq_some_iff.1 h2
      unfold m17_overflightref44_Same_B0
      simp [h1, h3, ih, ck_eq]
  rw [e0]; simp
theorem up_while {σ R : Type} {L : Nat → σ → Option R} (μ : σ → Nat) (I : σ → Prop) (T : σ → Option R)
    (hS : ∀ n s, I s → (∀ s', I s' → μ s' < μ s → L n s' = T s') → L (n + 1) s = T s) : ∀ fuel s, I s → μ s < fuel → L fuel s = T s := by
  intro fuel
  induction fuel with
  | zero => intro s _ h; omega
  | succ n ih => intro s hI hf; exact hS n s hI fun s' hI' hm => ih s' hI' (by omega)
theorem up_ex {σ R : Type} {L : Nat → σ → Option R} (μ : σ → Nat) (I : σ → Prop) (Q : Option R → Prop)
    (hS : ∀ n s, I s → (∀ s', I s' → μ s' < μ s → Q (L n s')) → Q (L (n + 1) s)) : ∀ fuel s, I s → μ s < fuel → Q (L fuel s) := by
  intro fuel
  induction fuel with
  | zero => intro s _ h; omega
  | succ n ih => intro s hI hf; exact hS n s hI fun s' hI' hm => ih s' hI' (by omega)
/-- the disk is small -/
theorem m14_tot (d : XDisk) (h1 : d.sectors.length ≤ 140737488351232) (h2 : ∀ s ∈ d.sectors, s.length ≤ 140737488351232) (h3 : d.pending.length ≤ 140737488351232) (h4 : ∀ w ∈ d.pending, w.data.length ≤ 140737488351232) : ∃ b, m14_overflightref44_Few d = some b := by
  have e1 : ∀ n : Int, 0 ≤ n → n ≤ 140737488361232 → ∃ b, loop2 (m14_overflightref44_Few_B1 d) 1000000 n 0 = some b := by
    intro n hn hm
    refine up_ex (σ := Int × Nat) (L := fun k s => loop2 (m14_overflightref44_Few_B1 d) k s.1 s.2) (fun s => (9001 - s.1).toNat) (fun s => 0 ≤ s.1 ∧ s.1 ≤ 140737488361232 ∧ s.2 ≤ d.pending.length) (fun r => ∃ b, r = some b) ?_ _ (n, 0) ⟨hn, hm, by simp⟩ (by show (9001 - n).toNat < _; omega)
    rintro k ⟨n, i⟩ ⟨hn, hm, hi⟩ ih
    simp only at hn hm hi ih ⊢
    rw [loop2_succ]
    generalize loop2 (m14_overflightref44_Few_B1 d) k = sf at ih ⊢
    unfold m14_overflightref44_Few_B1
    by_cases a1 : i < d.pending.length <;> by_cases a2 : n ≤ 9000
    · have hl := h4 d.pending[i] (List.getElem_mem a1)
      have w1 : IntKind.i64.wrap (n + 1) = n + 1 := wrap_i64 (by omega) (by omega)
      have w2 : IntKind.i64.wrap (n + 1 + (d.pending[i].data.length : Int)) = n + 1 + (d.pending[i].data.length : Int) := wrap_i64 (by omega) (by omega)
      have w3 : IntKind.i64.wrap ((i : Int) + 1) = ((i + 1 : Nat) : Int) := (wrapS (by omega)).trans (by omega)
      obtain ⟨b, hb⟩ := ih (n + 1 + (d.pending[i].data.length : Int), i + 1) (by simp only; omega) (by simp only; omega)
      refine ⟨b, ?_⟩
      have g : d.pending.getD (i : Int).toNat default = d.pending[i] := by simp [a1]
      have c : (i : Int) < (d.pending.length : Int) := by omega
      simp only [jn_eq, c, a2, decide_true, cond_true, g, w1, w2, w3]
      rw [ck_eq (by simp)]; exact hb
    · simp [a1, a2]
    · simp [a1, a2]
    · simp [a1, a2]
  refine up_ex (σ := Int × Nat) (L := fun k s => loop2 (m14_overflightref44_Few_B0 d) k s.1 s.2) (fun s => (9001 - s.1).toNat) (fun s => 0 ≤ s.1 ∧ s.1 ≤ 140737488361232 ∧ s.2 ≤ d.sectors.length) (fun r => ∃ b, r = some b) ?_ _ (0, 0) ⟨by simp, by simp, by simp⟩ (by decide)
  rintro k ⟨n, i⟩ ⟨hn, hm, hi⟩ ih
  simp only at hn hm hi ih ⊢
  rw [loop2_succ]
  generalize loop2 (m14_overflightref44_Few_B0 d) k = sf at ih ⊢
  obtain ⟨b1, hb1⟩ := e1 n hn hm
  unfold m14_overflightref44_Few_B0
  rw [hb1]
  by_cases a1 : i < d.sectors.length <;> by_cases a2 : n ≤ 9000
  · have hl := h2 d.sectors[i] (List.getElem_mem a1)
    have w1 : IntKind.i64.wrap (n + 1) = n + 1 := wrap_i64 (by omega) (by omega)
    have w2 : IntKind.i64.wrap (n + 1 + (d.sectors[i].length : Int)) = n + 1 + (d.sectors[i].length : Int) := wrap_i64 (by omega) (by omega)
    have w3 : IntKind.i64.wrap ((i : Int) + 1) = ((i + 1 : Nat) : Int) := (wrapS (by omega)).trans (by omega)
    obtain ⟨b, hb⟩ := ih (n + 1 + (d.sectors[i].length : Int), i + 1) (by simp only; omega) (by simp only; omega)
    refine ⟨b, ?_⟩
    have g : d.sectors.getD (i : Int).toNat default = d.sectors[i] := by simp [a1]
    have c : (i : Int) < (d.sectors.length : Int) := by omega
    simp only [jn_eq, c, a2, decide_true, cond_true, g, w1, w2, w3]
    rw [ck_eq (by simp)]; exact hb
  · simp [a1, a2]
  · simp [a1, a2]
  · simp [a1, a2]
theorem sm_few {d : XDisk} (h : smXDisk d) : Few' d := ⟨by have := h.1.1; omega, by have := h.2.1.1; omega⟩
end Go.Fx


/- DiskNewSpec: the plain law. -/
set_option linter.unusedSimpArgs false
set_option linter.unusedVariables false
namespace Go.Fx
open Go Go.RowKit
theorem m16_eq (n : Int) (hn : 1 ≤ n) (hm : n ≤ 4096) : m16_overflightref44_New n = some (⟨List.replicate n.toNat (List.replicate 128 0), [], -1, false⟩, 0) := by
  obtain ⟨k, rfl⟩ : ∃ k : Nat, n = k := ⟨n.toNat, by omega⟩
  unfold m16_overflightref44_New
  have e : loop2 (m16_overflightref44_New_B0 k) (((k : Int) - 0).toNat + 1) 0 [] = some (⟨List.replicate k (List.replicate 128 0), [], -1, false⟩, 0) := by
    refine (up_listA (σ := List (List UInt8)) (fun i s => s = List.replicate i (List.replicate 128 0)) (fun _ t s => some ((⟨List.replicate k (List.replicate 128 0), [], -1, false⟩ : XDisk), 0)) (List.replicate k ()) (by simp; omega) ?_ ?_ (by simp) rfl)
    · intro sf s hs; simp only [List.length_replicate] at *; unfold m16_overflightref44_New_B0; simp [hs]
    · intro sf i s x t h1 h2 h3 hs ih; simp only [List.length_replicate] at *; unfold m16_overflightref44_New_B0
      have : (i : Int) < (k : Int) := by omega
      simp only [this, decide_true, cond_true, h3]
      rw [ck_eq (by omega), ck_eq (by simp [hs]; omega)]
      rw [ih]
      simp [hs, List.replicate_succ']
  have a1 : ¬ ((k : Int) < 1) := by omega
  have a2 : ¬ (4096 < (k : Int)) := by omega
  simp only [jn_eq, a1, a2, decide_false, cond_false, e]
  simp
theorem m15_m16 : ∀ k : _root_.Fin 61, m15_disk_New (k.val : Int) = m16_overflightref44_New (k.val : Int) := by decide +kernel
theorem new_eq (n : Int) (h : ¬ (60 < n ∧ n ≤ 4096)) : m15_disk_New n = m16_overflightref44_New n := by
  by_cases h1 : n < 1
  · unfold m15_disk_New m16_overflightref44_New; simp [h1]
  by_cases h2 : 4096 < n
  · unfold m15_disk_New m16_overflightref44_New; simp [h1, h2]
  · have := m15_m16 ⟨n.toNat, by omega⟩
    rwa [show ((⟨n.toNat, by omega⟩ : _root_.Fin 61).val : Int) = n from by simp; omega] at this
theorem new_few (n : Int) (h : ¬ (60 < n ∧ n ≤ 4096)) : ∃ r, m16_overflightref44_New n = some r ∧ Few' r.1 := by
  by_cases h1 : n < 1
  · refine ⟨(⟨[], [], 0, false⟩, 1), ?_, ⟨by simp, by simp⟩⟩; unfold m16_overflightref44_New; simp [h1]
  by_cases h2 : 4096 < n
  · refine ⟨(⟨[], [], 0, false⟩, 1), ?_, ⟨by simp, by simp⟩⟩; unfold m16_overflightref44_New; simp [h1, h2]
  · exact ⟨_, m16_eq n (by omega) (by omega), ⟨by simp; omega, by simp⟩⟩
theorem DiskNewSpec_law (sectors : Int) (d : XDisk) (_ : InK .i64 sectors) (hd : smXDisk d) : m3_overflightlaw44_DiskNewSpec sectors d = some true := by
  obtain ⟨b, hb⟩ := m14_tot d hd.1.1 (fun s hs => (hd.1.2 s hs).1) hd.2.1.1 (fun w hw => (hd.2.1.2 w hw).2.1)
  have hf := sm_few hd
  unfold m3_overflightlaw44_DiskNewSpec
  rw [sane_eq, hb]
  simp only [Option.bind_some, jn_eq, Bool.not_true, cond_false]
  by_cases h : 60 < sectors ∧ sectors ≤ 4096
  · simp [h]
  have key : ((m15_disk_New sectors).bind fun new_1 =>
      (m16_overflightref44_New sectors).bind fun new_2 =>
      (m17_overflightref44_Same new_1.1 new_2.1).bind fun same_1 =>
      bif same_1 then
        bif (decide (new_1.2 = new_2.2)) then
          (m18_disk_Check d).bind fun check_1 =>
          (m19_overflightref44_Check d).bind fun check_2 =>
          bif (decide (check_1 = check_2)) then
            (m20_disk_Restart d).bind fun restart_1 =>
            (m21_overflightref44_Restart d).bind fun restart_2 =>
            (m17_overflightref44_Same restart_1 restart_2).bind fun same_2 =>
            some same_2
          else some false
        else some false
      else some false) = some true := by
    obtain ⟨r, hr, hrf⟩ := new_few sectors h
    rw [new_eq sectors h, hr, m18_eq d hf, m19_eq d hf]
    simp only [Option.bind_some, m17_refl r.1 hrf, m20_disk_Restart, m21_overflightref44_Restart]
    rw [m17_refl ⟨d.sectors, [], -1, false⟩ ⟨hf.s, by simp⟩]
    simp
  by_cases h1 : 60 < sectors
  · have h2 : ¬ sectors ≤ 4096 := fun h2 => h ⟨h1, h2⟩
    simp only [h1, h2, decide_true, decide_false, cond_true, cond_false, key]
    cases b <;> simp
  · simp only [h1, decide_true, decide_false, cond_true, cond_false, key]
    cases b <;> simp
end Go.Fx


namespace Go.Proofs.Ytegomkljijgjjaa.lawDiskNewSpec
open Go Go.Proofs Go.ChangeShapes Go.WideShapes Go.ChangeAt Go.RowKit Go.Fx
open Go.ChangeMaps (open_string shut_string)
set_option linter.unusedVariables false
set_option maxRecDepth 100000
theorem own : ownKnob Try.prog.godebug = none := by kernel_rfl
theorem laidOut : laidOutB Try.prog = true := by kernel_rfl
set_option maxRecDepth 100000 in
set_option maxHeartbeats 1000000 in
theorem lifted (os : Os) (started : os.Started) (H : Type) (enc : TypeId × Value → H) :
    ReturnsInHanded {} Try.checked os 3 .any (Rows.diskNewSpecSpec.pre6 enc Try.prog Try.f3 Rows.diskNewSpecRow.domain false) (Rows.diskNewSpecSpec.post enc Try.prog Try.f3 false true false false) := by
  refine returnsInHanded_of_change_sized (C := Try.checked) own started (by kernel_rfl) Try.func3
    (ChangeSpec.witness6 (enc := enc) (C := Try.checked) false ⟨#[], #[(.int .i64 0), .agg #[(.slice none 0 0), (.slice none 0 0), (.int .i64 0), (.bool false)]], []⟩ 8 (by kernel_rfl) (by kernel_rfl) (by kernel_rfl) (by kernel_rfl)) ?_
  intro W base args ds gs before hval0 hW hcnd hsz _
  have hval : ∀ (j : Nat) t v, Try.f3.params[j]? = some t → args[j]? = some v → Value.okWide Try.prog W .any base t v := hval0
  have hW' := hW
  obtain ⟨p, q, hA0, hV, rfl, hfz, hnd⟩ := hW
  have hA : DataW.TrodAll enc Try.prog W 0 (fun _ => true) true Try.f3.params.toList args.toList ds p := hA0
  rw [Try.params3] at hA hval
  obtain ⟨v0, vs0, d0, ds0, p0, q0, hargs, rfl, rfl, h0, r0⟩ := trodAll_cons hA
  obtain ⟨v1, vs1, d1, ds1, p1, q1, rfl, rfl, rfl, h1, r1⟩ := trodAll_cons r0
  obtain ⟨rfl, rfl, rfl⟩ := trodAll_nil r1
  obtain rfl : args = #[v0, v1] := by cases args; simp_all
  obtain ⟨rfl, rfl⟩ := trodVars_none hV
  have k0 := h0
  have lt0 : ∀ x ∈ p0, x.block < W.heap.size := by obtain ⟨m, hm⟩ := k0; exact DataW.trod_lt m _ _ _ hm
  obtain ⟨fu0, hf0⟩ := h0
  obtain ⟨sectors, rr0, sm0⟩ := rd3.2 _ _ _ hf0
  replace sm0 := sm0 (fun n hn => by have := List.all_eq_true.1 hsz n (DataW.weights_mem_each (j := 0) (t := 3) rfl rfl n hn); simpa using this)
  obtain ⟨n0, rfl⟩ := okWide_int Try.underlying3 (hval 0 3 v0 rfl rfl)
  replace rr0 : (rInt .i64).rd W [] [.int .i64 n0] sectors := rr0
  obtain ⟨e0, r_sectors⟩ := un_int rr0
  obtain rfl : sectors = n0 := by simpa using e0.symm
  have k1 := h1
  have lt1 : ∀ x ∈ p1, x.block < W.heap.size := by obtain ⟨m, hm⟩ := k1; exact DataW.trod_lt m _ _ _ hm
  obtain ⟨fu1, hf1⟩ := h1
  obtain ⟨d, rr1, sm1⟩ := rd25.2 _ _ _ hf1
  replace sm1 := sm1 (fun n hn => by have := List.all_eq_true.1 hsz n (DataW.weights_mem_each (j := 1) (t := 25) rfl rfl n hn); simpa using this)
  obtain ⟨⟨cs1⟩, rfl, _⟩ := okWide_struct Try.underlying25 (hval 1 25 v1 rfl rfl)
  replace rr1 : rXDisk.rd W [] cs1 d := rr1
  obtain ⟨_, _, rfl, ⟨a_d_sectors, c_d_sectors, rfl, f_d_sectors⟩, ⟨_, _, rfl, ⟨a_d_pending, c_d_pending, rfl, f_d_pending⟩, ⟨_, _, rfl, ⟨rfl, r_d_left⟩, rfl⟩⟩⟩ := rr1
  have hm : m3_overflightlaw44_DiskNewSpec sectors d = some true := DiskNewSpec_law _ _ sm0 sm1
  have hc := Fn.calls (c3_overflightlaw44_DiskNewSpec (sectors := sectors) (d := d) (w := W) (O := []) (by simp) r_sectors f_d_sectors f_d_pending r_d_left hm)
  clear hA0 hval0
  refine Calls.mono hc ?_
  rintro e W' ⟨v, rfl, bel, hv⟩
  obtain rfl : v = .bool true := hv
  exact ⟨_, rfl, _, _, _, [], _, [], hW', trodAll_mk1 (shut_bool Try.underlying4 _), (trodAll_cons_mk (Below.trod laidOut (by kernel_rfl) (of_decide_eq_true (by kernel_rfl)) k0 bel lt0) (trodAll_cons_mk (Below.trod laidOut (by kernel_rfl) (of_decide_eq_true (by kernel_rfl)) k1 bel lt1) trodAll_mk0)), rfl, bel.frame _, fun h => by cases h⟩
theorem over : Rows.diskNewSpecRow.holds Try.pinned (OpenSpec.ofChange Rows.diskNewSpecSpec) :=
  OpenClaim.holds_of_wide 3 Try.f3 rfl rfl rfl rfl rfl rfl rfl ⟨rfl, rfl, rfl, rfl, rfl⟩ rfl rfl rfl rfl rfl (by kernel_rfl) Try.func3 (by kernel_rfl)
    (of_decide_eq_true (by kernel_rfl)) (by unfold Func.isWrapper; first | (rw [if_pos (by decide +kernel)]; kernel_rfl) | (rw [if_neg (by decide +kernel)]; exact ⟨rfl, rfl⟩))
    (fun os started H enc _ => lifted os started H enc)
theorem proved : Rows.DiskNewSpecSaid := over
end Go.Proofs.Ytegomkljijgjjaa.lawDiskNewSpec

