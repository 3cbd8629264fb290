/- For every disk and list of writes, the law DiskTogether of chapter 44 returns true. -/
import Derived.Test.YtegomkljijgjjaaToge4
import Derived.Test.YtegomkljijgjjaaRows
import Derived.WalkKit
import Derived.ShutString
set_option linter.unusedVariables false
set_option linter.unusedSimpArgs false
set_option maxRecDepth 100000
set_option maxHeartbeats 0
namespace Go.Fx
open Go Go.RowKit Go.Proofs
def m6_overflightlaw44_DiskTogether_B1 (d : XDisk) (script : List XAct) (e_1 : Int) (v_2 : List (List UInt8)) (v_3 : List XWrite) (v_4 : Int) (v_5 : Bool) (sf299 : Int → (List (List UInt8)) → (List XWrite) → Int → Bool → Option Bool) (i_2 : Int) (v_7 : List (List UInt8)) (v_8 : List XWrite) (v_9 : Int) (v_10 : Bool) : Option Bool :=
  bif (decide (i_2 < (script.length : Int))) then
    ck ((0 : Int) ≤ i_2 ∧ i_2 < (script.length : Int)) <|
    ck (((d.sectors.length : Int) : Int) ≠ 0) <|
    ck ((0 : Int) ≤ i_2 ∧ i_2 < (script.length : Int)) <|
    (m23_disk_Write (⟨v_7, v_8, v_9, v_10⟩ : XDisk) (((script.getD i_2.toNat default).at_.toNat : Int).tmod (d.sectors.length : Int)) [(script.getD i_2.toNat default).byte]).bind fun write_2 =>
    bif (decide (write_2.2 ≠ 0)) then
      some false
    else
      sf299 (IntKind.wrap .i64 (i_2 + 1)) write_2.1.sectors write_2.1.pending write_2.1.left write_2.1.stopped
  else
    (m25_disk_Sync (⟨v_7, v_8, v_9, v_10⟩ : XDisk)).bind fun sync_2 =>
    bif (decide (e_1 = sync_2.2)) then
      (m17_overflightref44_Same (⟨v_2, v_3, v_4, v_5⟩ : XDisk) sync_2.1).bind fun same_1 =>
      some same_1
    else
      some false

def m6_overflightlaw44_DiskTogether_B0 (d : XDisk) (script : List XAct) (sf50 : Int → Int → (List (List UInt8)) → (List XWrite) → Int → Bool → Option Bool) (e_1 : Int) (i_1 : Int) (v_2 : List (List UInt8)) (v_3 : List XWrite) (v_4 : Int) (v_5 : Bool) : Option Bool :=
  jn (fun (v_6 : Bool) =>
    bif v_6 then
      ck ((0 : Int) ≤ i_1 ∧ i_1 < (script.length : Int)) <|
      ck (((d.sectors.length : Int) : Int) ≠ 0) <|
      ck ((0 : Int) ≤ i_1 ∧ i_1 < (script.length : Int)) <|
      (m23_disk_Write (⟨v_2, v_3, v_4, v_5⟩ : XDisk) (((script.getD i_1.toNat default).at_.toNat : Int).tmod (d.sectors.length : Int)) [(script.getD i_1.toNat default).byte]).bind fun write_1 =>
      bif (decide (write_1.2 ≠ 0)) then
        some false
      else
        (m25_disk_Sync write_1.1).bind fun sync_1 =>
        sf50 sync_1.2 (IntKind.wrap .i64 (i_1 + 1)) sync_1.1.sectors sync_1.1.pending sync_1.1.left sync_1.1.stopped
    else
      loop5 (m6_overflightlaw44_DiskTogether_B1 d script e_1 v_2 v_3 v_4 v_5) (((script.length : Int) - 0).toNat + 1) 0 d.sectors d.pending d.left d.stopped)
  (fun k62 =>
    bif (decide (i_1 < (script.length : Int))) then
      k62 (decide (e_1 = 0))
    else
      k62 false)

def m6_overflightlaw44_DiskTogether (d : XDisk) (script : List XAct) : Option Bool :=
  (m13_overflightlaw44_sane).bind fun sane_1 =>
  bif (!sane_1) then
    some false
  else
    jn (fun (v_1 : Bool) =>
      bif v_1 then
        some true
      else
        jn (  loop6 (m6_overflightlaw44_DiskTogether_B0 d script) (1000000) 0 0 d.sectors d.pending d.left d.stopped)
        (fun k35 =>
          k35))
    (fun k19 =>
      (m14_overflightref44_Few d).bind fun few_1 =>
      bif (!few_1) then
        k19 true
      else
        bif (decide (20 < (script.length : Int))) then
          k19 true
        else
          bif (decide (0 < (d.pending.length : Int))) then
            k19 true
          else
            bif (decide ((d.sectors.length : Int) = 0)) then
              k19 true
            else
              (m18_disk_Check d).bind fun check_1 =>
              bif (decide (check_1 ≠ 0)) then
                k19 true
              else
                k19 d.stopped)

theorem c6_overflightlaw44_DiskTogether {w : World} {O : List Nat} {d : XDisk} {script : List XAct} {a_d_sectors : Option Addr} {c_d_sectors : Nat} {a_d_pending : Option Addr} {c_d_pending : Nat} {a_script : Option Addr} {c_script : Nat} (hO : ∀ k ∈ O, k < w.heap.size) (f_d_sectors : SlR (rSl rU8) w O a_d_sectors c_d_sectors d.sectors) (f_d_pending : SlR rXWrite w O a_d_pending c_d_pending d.pending) (r_d_left : InK .i64 d.left) (f_script : SlR rXAct w O a_script c_script script) {x : Bool} (hm : m6_overflightlaw44_DiskTogether d script = some x) :
    Ok Try.prog 6 [(Value.agg [(Value.slice a_d_sectors d.sectors.length c_d_sectors), (Value.slice a_d_pending d.pending.length c_d_pending), (Value.int .i64 d.left), (Value.bool d.stopped)].toArray), (Value.slice a_script script.length c_script)] w O vB x := by
  unfold m6_overflightlaw44_DiskTogether at hm
  refine Fn_of_Wp (n := 131) (xs := [.tmp 4]) Try.func6 rfl Try.ntmps6 Try.results6 rfl ?_
  have hs := St.start hO
  refine Wp_seq ?_
  refine Wp_region ?_  -- 0 law.go:188
  refine Rg_op rfl (op_box (cs := [(Value.slice a_d_sectors d.sectors.length c_d_sectors), (Value.slice a_d_pending d.pending.length c_d_pending), (Value.int .i64 d.left), (Value.bool d.stopped)]) hs rfl rfl ?_)
  intro b1 w2 _ p3 hs4
  replace f_d_sectors := f_d_sectors.step p3
  replace f_d_pending := f_d_pending.step p3
  replace f_script := f_script.step p3
  clear p3
  refine Rg_op rfl (op_assign (v := (Value.bool false)) rfl ?_)
  refine Rg_nil ?_
  refine Wp_seq ?_
  refine Wp_seq ?_
  refine Wp_region ?_  -- 1 law.go:189
  replace hm := bd hm; obtain ⟨sane_1, hv6, hm⟩ := hm
  refine Rg_op rfl (op_call Try.call13 (c13_overflightlaw44_sane  hs4.ltw  hv6) rfl ?_)
  rintro v7 w8 ⟨hx9, h10⟩
  have hs11 := hs4.call hx9
  have p12 := Step.ext (O := ks [(some b1, Obj.cells [(Value.slice a_d_sectors d.sectors.length c_d_sectors), (Value.slice a_d_pending d.pending.length c_d_pending), (Value.int .i64 d.left), (Value.bool d.stopped)].toArray 25)] O) hx9
  clear hx9
  replace f_d_sectors := f_d_sectors.step p12
  replace f_d_pending := f_d_pending.step p12
  replace f_script := f_script.step p12
  clear p12 hs4
  obtain rfl := h10
  refine Rg_op rfl (op_not rfl ?_)
  refine Rg_nil ?_
  refine Wp_cond rfl (fun hc14 => ?_) (fun hc14 => ?_)
  ·
    replace hm := bif_t hm hc14
    refine Wp_seq ?_
    obtain ⟨hs15, p16⟩ := hs11.sub (bs' := []) (.cons _ List.Sublist.slnil)
    clear f_d_sectors f_d_pending f_script
    clear p16 hs11
    refine Wp_region ?_  -- 2 law.go:190
    refine Rg_op rfl (op_assign (v := (Value.bool false)) rfl ?_)
    refine Rg_nil ?_
    refine Wp_ret ?_
    have hz := step_all hs15
    refine ⟨_, (show Closes [] _ _ from rfl), [(Value.bool false)], ⟨rfl, trivial⟩, hs15.ext, ?_⟩
    exact Vr.eq (a := vB) (x := false) rfl (Option.some.inj hm)
  ·
    replace hm := bif_f hm hc14
    refine Wp_skip ?_
    refine Wp_seq ?_
    refine Wp_reset [] [(1, (Value.slice a_script script.length c_script)), (2, (Value.pointer (some ⟨b1, 0, none⟩)))] rfl ⟨rfl, rfl, trivial⟩ fun ξ17 => ?_
    replace hm := jn_elim hm; obtain ⟨k19, hk20, hm⟩ := hm
    refine Wp_seqJ [18, 19, 20, 21, 22, 23, 24, 25, 26, 27, 28, 29, 30, 31, 32, 33, 34, 35, 36, 37, 38, 39, 40, 41, 42, 43, 44, 45, 46] (fun fr w' => ∃ (v_1 : Bool) (Ebs : Ents), Ebs = [(some b1, Obj.cells [(Value.slice a_d_sectors d.sectors.length c_d_sectors), (Value.slice a_d_pending d.pending.length c_d_pending), (Value.int .i64 d.left), (Value.bool d.stopped)].toArray 25)] ∧ fr [] [(46, (Value.bool v_1))] ∧ Step (ks [(some b1, Obj.cells [(Value.slice a_d_sectors d.sectors.length c_d_sectors), (Value.slice a_d_pending d.pending.length c_d_pending), (Value.int .i64 d.left), (Value.bool d.stopped)].toArray 25)] O) w8 (ks Ebs O) w' ∧ St ⟨w, [], []⟩ O w' Ebs ∧ k19 v_1 = some x) ?_ ?_
    ·
      rintro ρ26 w22 ⟨v_1, Ebs, hEbs, hfr25, hst24, hs23, hm⟩
      replace hm := jnE1 hk20 hm
      subst hEbs; rw [hfr25.eq]; clear hfr25
      replace f_d_sectors := f_d_sectors.step hst24
      replace f_d_pending := f_d_pending.step hst24
      replace f_script := f_script.step hst24
      clear hst24 hs11
      refine Wp_cond rfl (fun hc27 => ?_) (fun hc27 => ?_)
      ·
        replace hm := bif_t hm hc27
        refine Wp_seq ?_
        obtain ⟨hs28, p29⟩ := hs23.sub (bs' := []) (.cons _ List.Sublist.slnil)
        clear f_d_sectors f_d_pending f_script
        clear p29 hs23
        refine Wp_region ?_  -- 4 law.go:193
        refine Rg_op rfl (op_assign (v := (Value.bool true)) rfl ?_)
        refine Rg_nil ?_
        refine Wp_ret ?_
        have hz := step_all hs28
        refine ⟨_, (show Closes [] _ _ from rfl), [(Value.bool true)], ⟨rfl, trivial⟩, hs28.ext, ?_⟩
        exact Vr.eq (a := vB) (x := true) rfl (Option.some.inj hm)
      ·
        replace hm := bif_f hm hc27
        refine Wp_skip ?_
        refine Wp_reset [] [(1, (Value.slice a_script script.length c_script)), (2, (Value.pointer (some ⟨b1, 0, none⟩)))] rfl ⟨rfl, rfl, trivial⟩ fun ξ30 => ?_
        replace hm := jn_elim hm; obtain ⟨k35, hk36, hm⟩ := hm
        refine Wp_seqJ [5, 6, 47, 48] (fun fr w' => ∃ (b31 : Nat) (b33 : Nat) (Ebs : Ents), Ebs = [(some b31, Obj.cells [(Value.slice a_d_sectors d.sectors.length c_d_sectors), (Value.slice a_d_pending d.pending.length c_d_pending), (Value.int .i64 d.left), (Value.bool d.stopped)].toArray 25), (some b33, Obj.cells [(Value.slice a_d_sectors d.sectors.length c_d_sectors), (Value.slice a_d_pending d.pending.length c_d_pending), (Value.int .i64 d.left), (Value.bool d.stopped)].toArray 25), (some b1, Obj.cells [(Value.slice a_d_sectors d.sectors.length c_d_sectors), (Value.slice a_d_pending d.pending.length c_d_pending), (Value.int .i64 d.left), (Value.bool d.stopped)].toArray 25)] ∧ fr [] [(5, (Value.pointer (some ⟨b31, 0, none⟩))), (6, (Value.pointer (some ⟨b33, 0, none⟩)))] ∧ Step (ks [(some b1, Obj.cells [(Value.slice a_d_sectors d.sectors.length c_d_sectors), (Value.slice a_d_pending d.pending.length c_d_pending), (Value.int .i64 d.left), (Value.bool d.stopped)].toArray 25)] O) w22 (ks Ebs O) w' ∧ St ⟨w, [], []⟩ O w' Ebs ∧ k35 = some x) ?_ ?_
        ·
          rintro ρ42 w38 ⟨b31, b33, Ebs, hEbs, hfr41, hst40, hs39, hm⟩
          replace hm := jnE0 hk36 hm
          subst hEbs; rw [hfr41.eq]; clear hfr41
          replace f_d_sectors := f_d_sectors.step hst40
          replace f_d_pending := f_d_pending.step hst40
          replace f_script := f_script.step hst40
          clear hst40 hs23
          refine Wp_seq ?_
          refine Wp_region ?_  -- 6 law.go:196
          refine Rg_op rfl (op_assign (v := (Value.int .i64 0)) rfl ?_)
          refine Rg_nil ?_
          refine Wp_seq ?_
          refine Wp_seq ?_
          refine Wp_region ?_  -- 7 law.go:197
          refine Rg_op rfl (op_assign (v := (Value.int .i64 0)) rfl ?_)
          refine Rg_nil ?_
          refine Wp_block ?_
          refine Wp_reset [] [(1, (Value.slice a_script script.length c_script)), (2, (Value.pointer (some ⟨b1, 0, none⟩))), (5, (Value.pointer (some ⟨b31, 0, none⟩))), (6, (Value.pointer (some ⟨b33, 0, none⟩))), (7, (Value.int .i64 0)), (8, (Value.int .i64 0))] rfl ⟨rfl, rfl, rfl, rfl, rfl, rfl, trivial⟩ fun ξ49 => ?_
          refine Wp_loopM [4, 7, 8, 9, 10, 11, 49, 50, 51, 52, 53, 54, 55, 56, 57, 58, 59, 60, 61, 62, 63, 64, 65, 66, 67, 68, 69, 70, 71, 72, 73, 74, 75, 76, 77, 78, 79, 80, 81, 82, 83, 84, 85, 86, 87] (fun m fr w' => ∃ (e_1 : Int) (i_1 : Int) (v_2 : List (List UInt8)) (v_3 : List XWrite) (v_4 : Int) (v_5 : Bool) (a_y45 : Option Addr) (c_y45 : Nat) (a_y46 : Option Addr) (c_y46 : Nat) (Ebs : Ents), Ebs = [(some b31, Obj.cells [(Value.slice a_y45 v_2.length c_y45), (Value.slice a_y46 v_3.length c_y46), (Value.int .i64 v_4), (Value.bool v_5)].toArray 25), (some b33, Obj.cells [(Value.slice a_d_sectors d.sectors.length c_d_sectors), (Value.slice a_d_pending d.pending.length c_d_pending), (Value.int .i64 d.left), (Value.bool d.stopped)].toArray 25), (some b1, Obj.cells [(Value.slice a_d_sectors d.sectors.length c_d_sectors), (Value.slice a_d_pending d.pending.length c_d_pending), (Value.int .i64 d.left), (Value.bool d.stopped)].toArray 25)] ∧ fr [] [(7, (Value.int .i64 e_1)), (8, (Value.int .i64 i_1))] ∧ Step (ks [(some b31, Obj.cells [(Value.slice a_d_sectors d.sectors.length c_d_sectors), (Value.slice a_d_pending d.pending.length c_d_pending), (Value.int .i64 d.left), (Value.bool d.stopped)].toArray 25), (some b33, Obj.cells [(Value.slice a_d_sectors d.sectors.length c_d_sectors), (Value.slice a_d_pending d.pending.length c_d_pending), (Value.int .i64 d.left), (Value.bool d.stopped)].toArray 25), (some b1, Obj.cells [(Value.slice a_d_sectors d.sectors.length c_d_sectors), (Value.slice a_d_pending d.pending.length c_d_pending), (Value.int .i64 d.left), (Value.bool d.stopped)].toArray 25)] O) w38 (ks Ebs O) w' ∧ St ⟨w, [], []⟩ O w' Ebs ∧ InK .i64 e_1 ∧ InK .i64 i_1 ∧ SlR (rSl rU8) w' (ks Ebs O) a_y45 c_y45 v_2 ∧ SlR rXWrite w' (ks Ebs O) a_y46 c_y46 v_3 ∧ InK .i64 v_4 ∧ loop6 (m6_overflightlaw44_DiskTogether_B0 d script) m e_1 i_1 v_2 v_3 v_4 v_5 = some x) (1000000) ⟨0, 0, d.sectors, d.pending, d.left, d.stopped, a_d_sectors, c_d_sectors, a_d_pending, c_d_pending, _, rfl, ⟨Out.refl _ _, rfl, rfl, rfl, trivial⟩, Step.refl _ _, hs39, (show InK .i64 0 from by decide), (show InK .i64 0 from by decide), f_d_sectors, f_d_pending, r_d_left, hm⟩ ?_ ?_
          · rintro _ _ ⟨_, _, _, _, _, _, _, _, _, _, _, _, _, _, _, _, _, _, _, _, hm⟩; exact loop6_z hm
          · rintro m53 K52 hK52 ρ58 w54 ⟨e_1, i_1, v_2, v_3, v_4, v_5, a_y45, c_y45, a_y46, c_y46, Ebs, hEbs, hfr57, hst56, hs55, r_y43, r_y44, f_y45, f_y46, r_y47, hm⟩
            obtain ⟨sf50, hsf51, hm⟩ := loop6_s hm; unfold m6_overflightlaw44_DiskTogether_B0 at hm
            subst hEbs; rw [hfr57.eq]; clear hfr57
            replace f_d_sectors := f_d_sectors.step hst56
            replace f_d_pending := f_d_pending.step hst56
            replace f_script := f_script.step hst56
            have ch59 := hst56
            refine Wp_seq ?_
            refine Wp_reset2 [4, 7, 8, 9, 10, 11, 49, 50, 51, 52, 53, 54, 55, 56, 57, 58, 59, 60, 61, 62, 63, 64, 65, 66, 67, 68, 69, 70, 71, 72, 73, 74, 75, 76, 77, 78, 79, 80, 81, 82, 83, 84, 85, 86, 87] [] (updL ⟨ξ49, []⟩ [(1, (Value.slice a_script script.length c_script)), (2, (Value.pointer (some ⟨b1, 0, none⟩))), (5, (Value.pointer (some ⟨b31, 0, none⟩))), (6, (Value.pointer (some ⟨b33, 0, none⟩))), (7, (Value.int .i64 0)), (8, (Value.int .i64 0))]) [(7, (Value.int .i64 e_1)), (8, (Value.int .i64 i_1))] (by repeat (first | with_reducible exact Out.refl _ _ | refine Out.upd ?_ rfl | refine Out.updL ?_ rfl | refine Out.mix' ?_ rfl | exact Out.refl _ _)) rfl ⟨rfl, rfl, trivial⟩ fun ξ60 => ?_
            replace hm := jn_elim hm; obtain ⟨k62, hk63, hm⟩ := hm
            refine Wp_seqJ [49, 50, 51, 52, 53, 54, 55, 56] (fun fr w' => ∃ (v_6 : Bool) (Ebs : Ents), Ebs = [(some b31, Obj.cells [(Value.slice a_y45 v_2.length c_y45), (Value.slice a_y46 v_3.length c_y46), (Value.int .i64 v_4), (Value.bool v_5)].toArray 25), (some b33, Obj.cells [(Value.slice a_d_sectors d.sectors.length c_d_sectors), (Value.slice a_d_pending d.pending.length c_d_pending), (Value.int .i64 d.left), (Value.bool d.stopped)].toArray 25), (some b1, Obj.cells [(Value.slice a_d_sectors d.sectors.length c_d_sectors), (Value.slice a_d_pending d.pending.length c_d_pending), (Value.int .i64 d.left), (Value.bool d.stopped)].toArray 25)] ∧ fr [] [(56, (Value.bool v_6))] ∧ Step (ks [(some b31, Obj.cells [(Value.slice a_y45 v_2.length c_y45), (Value.slice a_y46 v_3.length c_y46), (Value.int .i64 v_4), (Value.bool v_5)].toArray 25), (some b33, Obj.cells [(Value.slice a_d_sectors d.sectors.length c_d_sectors), (Value.slice a_d_pending d.pending.length c_d_pending), (Value.int .i64 d.left), (Value.bool d.stopped)].toArray 25), (some b1, Obj.cells [(Value.slice a_d_sectors d.sectors.length c_d_sectors), (Value.slice a_d_pending d.pending.length c_d_pending), (Value.int .i64 d.left), (Value.bool d.stopped)].toArray 25)] O) w54 (ks Ebs O) w' ∧ St ⟨w, [], []⟩ O w' Ebs ∧ k62 v_6 = some x) ?_ ?_
            ·
              rintro ρ69 w65 ⟨v_6, Ebs, hEbs, hfr68, hst67, hs66, hm⟩
              replace hm := jnE1 hk63 hm
              subst hEbs; rw [hfr68.eq]; clear hfr68
              replace f_d_sectors := f_d_sectors.step hst67
              replace f_d_pending := f_d_pending.step hst67
              replace f_script := f_script.step hst67
              replace f_y45 := f_y45.step hst67
              replace f_y46 := f_y46.step hst67
              replace ch59 := ch59.trans hst67
              clear hst67 hs55
              refine Wp_cond rfl (fun hc70 => ?_) (fun hc70 => ?_)
              ·
                replace hm := bif_t hm hc70
                refine Wp_skip ?_
                refine Wp_seq ?_
                refine Wp_block ?_
                refine Wp_seq ?_
                refine Wp_drawR (g0 := []) (m := 9) (fl := [0, 1]) (TS_inv hs66) (.inl rfl) rfl (by decide +kernel) ?_  -- 10
                refine Dw_eq (Value.slice a_script script.length c_script) (fun ρ71 w72 g hle hi ht => ?_) ?_
                ·
                  obtain ⟨-, hst, -⟩ := hle
                  refine StepOp_plain (op_move (v := (Value.slice a_script script.length c_script)) (ht 1 rfl) ?_)
                  exact Goes.same hi rfl
                refine Dw_eq (Value.int .i64 i_1) (fun ρ74 w75 g hle hi ht => ?_) ?_
                ·
                  obtain ⟨-, hst, -⟩ := hle
                  refine StepOp_plain (op_move (v := (Value.int .i64 i_1)) (ht 8 rfl) ?_)
                  exact Goes.same hi rfl
                replace hm := ck_some hm; obtain ⟨hc80, hm⟩ := hm
                refine Dw_op (VP O [(some b31, Obj.cells [(Value.slice a_y45 v_2.length c_y45), (Value.slice a_y46 v_3.length c_y46), (Value.int .i64 v_4), (Value.bool v_5)].toArray 25), (some b33, Obj.cells [(Value.slice a_d_sectors d.sectors.length c_d_sectors), (Value.slice a_d_pending d.pending.length c_d_pending), (Value.int .i64 d.left), (Value.bool d.stopped)].toArray 25), (some b1, Obj.cells [(Value.slice a_d_sectors d.sectors.length c_d_sectors), (Value.slice a_d_pending d.pending.length c_d_pending), (Value.int .i64 d.left), (Value.bool d.stopped)].toArray 25)] rXAct (script.getD i_1.toNat default)) (VP.stab _ _) (fun ρ77 w78 g hle hi ht => ?_) ?_
                ·
                  obtain ⟨-, hst, -⟩ := hle
                  replace f_script := f_script.step hst
                  refine StepOp_plain (op_indexAddr (q := rXAct) ty35 ty39 (ht 59 rfl) (ht 60 rfl) f_script rfl hc80.1 hc80.2 ?_)
                  intro p81 f82
                  exact Goes.same hi ⟨_, rfl, f82⟩
                refine Dw_op (VP O [(some b31, Obj.cells [(Value.slice a_y45 v_2.length c_y45), (Value.slice a_y46 v_3.length c_y46), (Value.int .i64 v_4), (Value.bool v_5)].toArray 25), (some b33, Obj.cells [(Value.slice a_d_sectors d.sectors.length c_d_sectors), (Value.slice a_d_pending d.pending.length c_d_pending), (Value.int .i64 d.left), (Value.bool d.stopped)].toArray 25), (some b1, Obj.cells [(Value.slice a_d_sectors d.sectors.length c_d_sectors), (Value.slice a_d_pending d.pending.length c_d_pending), (Value.int .i64 d.left), (Value.bool d.stopped)].toArray 25)] rU8 ((script.getD i_1.toNat default).at_)) (VP.stab _ _) (fun ρ83 w84 g hle hi ht => ?_) ?_
                ·
                  obtain ⟨-, hst, -⟩ := hle
                  obtain ⟨p86, q87, f88⟩ := ht 61 rfl
                  refine StepOp_plain (op_fieldAddr ty39 rfl ty5 (by decide) q87 rfl ?_)
                  have f89 := f88.via.snd.fst
                  exact Goes.same hi ⟨_, rfl, f89⟩
                refine Dw_eq (Value.int .u8 (((script.getD i_1.toNat default).at_).toNat : Int)) (fun ρ90 w91 g hle hi ht => ?_) ?_
                ·
                  obtain ⟨-, hst, -⟩ := hle
                  obtain ⟨p93, q94, f95⟩ := ht 62 rfl
                  refine StepOp_plain (op_loadP ty5 q94 f95 rfl ?_)
                  intro v96 h97
                  obtain rfl := un_u8 h97
                  exact Goes.same hi rfl
                refine Dw_eq (Value.int .i64 ((script.getD i_1.toNat default).at_.toNat : Int)) (fun ρ99 w100 g hle hi ht => ?_) ?_
                ·
                  obtain ⟨-, hst, -⟩ := hle
                  refine StepOp_plain (op_conv_u8 Try.underlying5 Try.underlying3 (ht 63 rfl) (by decide) ?_)
                  exact Goes.same hi rfl
                refine Dw_eq (Value.pointer (some ⟨b1, 0, none⟩)) (fun ρ102 w103 g hle hi ht => ?_) ?_
                ·
                  obtain ⟨-, hst, -⟩ := hle
                  refine StepOp_plain (op_fieldAddr ty25 rfl ty22 (by decide) (ht 2 rfl) (rfl : _ = (⟨_, 0, none⟩ : Addr)) ?_)
                  exact Goes.same hi rfl
                refine Dw_eq (Value.slice a_d_sectors d.sectors.length c_d_sectors) (fun ρ105 w106 g hle hi ht => ?_) ?_
                ·
                  obtain ⟨-, hst, -⟩ := hle
                  have hsn := (Step.nx hi).1
                  refine StepOp_plain (op_load (cs := [(Value.slice a_d_sectors d.sectors.length c_d_sectors), (Value.slice a_d_pending d.pending.length c_d_pending), (Value.int .i64 d.left), (Value.bool d.stopped)]) (i := 2) ty22 hsn (ht 65 rfl) rfl rfl ?_)
                  exact Goes.same hi rfl
                refine Dw_eq (Value.int .i64 (d.sectors.length : Int)) (fun ρ108 w109 g hle hi ht => ?_) ?_
                ·
                  obtain ⟨-, hst, -⟩ := hle
                  refine StepOp_plain (op_len Try.underlying22 (ht 66 rfl) ?_)
                  exact Goes.same hi rfl
                refine Dw_nil fun w115 g116 hl117 hi118 => ?_
                obtain ⟨-, hst119, -⟩ := hl117
                obtain ⟨hs121, p120⟩ := Step.nx hi118
                rintro _ rfl
                rintro _ rfl
                rintro _ rfl
                rintro _ rfl
                rintro _ rfl
                rintro _ ⟨p122, rfl, f123⟩
                rintro _ ⟨p124, rfl, f125⟩
                rintro _ rfl
                rintro _ rfl
                have p126 : Step (ks [(some b31, Obj.cells [(Value.slice a_y45 v_2.length c_y45), (Value.slice a_y46 v_3.length c_y46), (Value.int .i64 v_4), (Value.bool v_5)].toArray 25), (some b33, Obj.cells [(Value.slice a_d_sectors d.sectors.length c_d_sectors), (Value.slice a_d_pending d.pending.length c_d_pending), (Value.int .i64 d.left), (Value.bool d.stopped)].toArray 25), (some b1, Obj.cells [(Value.slice a_d_sectors d.sectors.length c_d_sectors), (Value.slice a_d_pending d.pending.length c_d_pending), (Value.int .i64 d.left), (Value.bool d.stopped)].toArray 25)] O) w65 (ks [(some b31, Obj.cells [(Value.slice a_y45 v_2.length c_y45), (Value.slice a_y46 v_3.length c_y46), (Value.int .i64 v_4), (Value.bool v_5)].toArray 25), (some b33, Obj.cells [(Value.slice a_d_sectors d.sectors.length c_d_sectors), (Value.slice a_d_pending d.pending.length c_d_pending), (Value.int .i64 d.left), (Value.bool d.stopped)].toArray 25), (some b1, Obj.cells [(Value.slice a_d_sectors d.sectors.length c_d_sectors), (Value.slice a_d_pending d.pending.length c_d_pending), (Value.int .i64 d.left), (Value.bool d.stopped)].toArray 25)] O) w115 := hst119.trans p120
                replace f123 := f123.step p120
                replace f125 := f125.step p120
                replace f_d_sectors := f_d_sectors.step p126
                replace f_d_pending := f_d_pending.step p126
                replace f_script := f_script.step p126
                replace f_y45 := f_y45.step p126
                replace f_y46 := f_y46.step p126
                replace ch59 := ch59.trans p126
                clear p126 hs66
                replace hm := ck_some hm; obtain ⟨hc127, hm⟩ := hm
                refine Rg_op rfl (op_rem rfl rfl hc127 ?_)
                refine Rg_op rfl (op_assign (v := (Value.int .i64 (((script.getD i_1.toNat default).at_.toNat : Int).tmod (d.sectors.length : Int)))) rfl ?_)
                refine Rg_nil ?_
                refine Wp_seq ?_
                clear f123 f125
                refine Wp_drawR (g0 := []) (m := 13) (fl := [11]) (TS_inv hs121) (.inl rfl) rfl (by decide +kernel) ?_  -- 11
                refine Dw_eq (Value.agg [(Value.slice a_y45 v_2.length c_y45), (Value.slice a_y46 v_3.length c_y46), (Value.int .i64 v_4), (Value.bool v_5)].toArray) (fun ρ128 w129 g hle hi ht => ?_) ?_
                ·
                  obtain ⟨-, hst, -⟩ := hle
                  have hsn := (Step.nx hi).1
                  refine StepOp_plain (op_loadA (cs := [(Value.slice a_y45 v_2.length c_y45), (Value.slice a_y46 v_3.length c_y46), (Value.int .i64 v_4), (Value.bool v_5)]) (vs := [(Value.slice a_y45 v_2.length c_y45), (Value.slice a_y46 v_3.length c_y46), (Value.int .i64 v_4), (Value.bool v_5)]) (i := 0) ty25 hsn (ht 5 rfl) rfl rfl rfl ?_)
                  exact Goes.same hi rfl
                refine Dw_eq (Value.int .i64 (((script.getD i_1.toNat default).at_.toNat : Int).tmod (d.sectors.length : Int))) (fun ρ131 w132 g hle hi ht => ?_) ?_
                ·
                  obtain ⟨-, hst, -⟩ := hle
                  refine StepOp_plain (op_move (v := (Value.int .i64 (((script.getD i_1.toNat default).at_.toNat : Int).tmod (d.sectors.length : Int)))) (ht 9 rfl) ?_)
                  exact Goes.same hi rfl
                refine Dw_eq (Value.slice a_script script.length c_script) (fun ρ134 w135 g hle hi ht => ?_) ?_
                ·
                  obtain ⟨-, hst, -⟩ := hle
                  refine StepOp_plain (op_move (v := (Value.slice a_script script.length c_script)) (ht 1 rfl) ?_)
                  exact Goes.same hi rfl
                refine Dw_eq (Value.int .i64 i_1) (fun ρ137 w138 g hle hi ht => ?_) ?_
                ·
                  obtain ⟨-, hst, -⟩ := hle
                  refine StepOp_plain (op_move (v := (Value.int .i64 i_1)) (ht 8 rfl) ?_)
                  exact Goes.same hi rfl
                replace hm := ck_some hm; obtain ⟨hc143, hm⟩ := hm
                refine Dw_op (VP O [(some b31, Obj.cells [(Value.slice a_y45 v_2.length c_y45), (Value.slice a_y46 v_3.length c_y46), (Value.int .i64 v_4), (Value.bool v_5)].toArray 25), (some b33, Obj.cells [(Value.slice a_d_sectors d.sectors.length c_d_sectors), (Value.slice a_d_pending d.pending.length c_d_pending), (Value.int .i64 d.left), (Value.bool d.stopped)].toArray 25), (some b1, Obj.cells [(Value.slice a_d_sectors d.sectors.length c_d_sectors), (Value.slice a_d_pending d.pending.length c_d_pending), (Value.int .i64 d.left), (Value.bool d.stopped)].toArray 25)] rXAct (script.getD i_1.toNat default)) (VP.stab _ _) (fun ρ140 w141 g hle hi ht => ?_) ?_
                ·
                  obtain ⟨-, hst, -⟩ := hle
                  replace f_script := f_script.step hst
                  refine StepOp_plain (op_indexAddr (q := rXAct) ty35 ty39 (ht 72 rfl) (ht 73 rfl) f_script rfl hc143.1 hc143.2 ?_)
                  intro p144 f145
                  exact Goes.same hi ⟨_, rfl, f145⟩
                refine Dw_op (VP O [(some b31, Obj.cells [(Value.slice a_y45 v_2.length c_y45), (Value.slice a_y46 v_3.length c_y46), (Value.int .i64 v_4), (Value.bool v_5)].toArray 25), (some b33, Obj.cells [(Value.slice a_d_sectors d.sectors.length c_d_sectors), (Value.slice a_d_pending d.pending.length c_d_pending), (Value.int .i64 d.left), (Value.bool d.stopped)].toArray 25), (some b1, Obj.cells [(Value.slice a_d_sectors d.sectors.length c_d_sectors), (Value.slice a_d_pending d.pending.length c_d_pending), (Value.int .i64 d.left), (Value.bool d.stopped)].toArray 25)] rU8 ((script.getD i_1.toNat default).byte)) (VP.stab _ _) (fun ρ146 w147 g hle hi ht => ?_) ?_
                ·
                  obtain ⟨-, hst, -⟩ := hle
                  obtain ⟨p149, q150, f151⟩ := ht 74 rfl
                  refine StepOp_plain (op_fieldAddr ty39 rfl ty5 (by decide) q150 rfl ?_)
                  have f152 := f151.via.snd.snd
                  exact Goes.same hi ⟨_, rfl, f152⟩
                refine Dw_eq (Value.int .u8 (((script.getD i_1.toNat default).byte).toNat : Int)) (fun ρ153 w154 g hle hi ht => ?_) ?_
                ·
                  obtain ⟨-, hst, -⟩ := hle
                  obtain ⟨p156, q157, f158⟩ := ht 75 rfl
                  refine StepOp_plain (op_loadP ty5 q157 f158 rfl ?_)
                  intro v159 h160
                  obtain rfl := un_u8 h160
                  exact Goes.same hi rfl
                refine Dw_op (VD O [(some b31, Obj.cells [(Value.slice a_y45 v_2.length c_y45), (Value.slice a_y46 v_3.length c_y46), (Value.int .i64 v_4), (Value.bool v_5)].toArray 25), (some b33, Obj.cells [(Value.slice a_d_sectors d.sectors.length c_d_sectors), (Value.slice a_d_pending d.pending.length c_d_pending), (Value.int .i64 d.left), (Value.bool d.stopped)].toArray 25), (some b1, Obj.cells [(Value.slice a_d_sectors d.sectors.length c_d_sectors), (Value.slice a_d_pending d.pending.length c_d_pending), (Value.int .i64 d.left), (Value.bool d.stopped)].toArray 25)] (vC (rSl rU8)) [(script.getD i_1.toNat default).byte]) (VD.stab _ _) (fun ρ162 w163 g hle hi ht => ?_) ?_
                ·
                  obtain ⟨-, hst, -⟩ := hle
                  replace f_d_sectors := f_d_sectors.step hst
                  replace f_d_pending := f_d_pending.step hst
                  replace f_script := f_script.step hst
                  replace f_y45 := f_y45.step hst
                  replace f_y46 := f_y46.step hst
                  refine StepOp_plain (op_buildSlice (cs := [(Value.int .u8 (((script.getD i_1.toNat default).byte).toNat : Int))]) (parts := [(0, .tmp 76)]) ty41 ty5 hi (by decide) (by simp only [List.map, (show ev _ (.tmp 76) = _ from (ht 76 rfl))]; rfl) ?_)
                  intro b165 w166 hx169 p167 hs168
                  replace f_d_sectors := f_d_sectors.step p167
                  replace f_d_pending := f_d_pending.step p167
                  replace f_script := f_script.step p167
                  replace f_y45 := f_y45.step p167
                  replace f_y46 := f_y46.step p167
                  obtain ⟨hs171, p172, f173⟩ := St.publish (i := 0) (o := 0) (c := 1) (xs := [(script.getD i_1.toNat default).byte]) hs168 rfl (show Els rU8 _ _ [(Value.int .u8 (((script.getD i_1.toNat default).byte).toNat : Int))] [(script.getD i_1.toNat default).byte] from ⟨_, _, rfl, mkU8, Els.nil⟩) (le_lit rfl) (le_lit rfl) (le_lit rfl)
                  exact Goes.pub hi hs171 (Step.trans p167 p172) hx169 (show Vr.vd (vC (rSl rU8)) _ _ _ _ from mkC (mk_sl f173))
                replace hm := bd hm; obtain ⟨write_1, hv180, hm⟩ := hm
                refine Dw_op (VD O [(some b31, Obj.cells [(Value.slice a_y45 v_2.length c_y45), (Value.slice a_y46 v_3.length c_y46), (Value.int .i64 v_4), (Value.bool v_5)].toArray 25), (some b33, Obj.cells [(Value.slice a_d_sectors d.sectors.length c_d_sectors), (Value.slice a_d_pending d.pending.length c_d_pending), (Value.int .i64 d.left), (Value.bool d.stopped)].toArray 25), (some b1, Obj.cells [(Value.slice a_d_sectors d.sectors.length c_d_sectors), (Value.slice a_d_pending d.pending.length c_d_pending), (Value.int .i64 d.left), (Value.bool d.stopped)].toArray 25)] (vT2 (vA rXDisk) (vI .i64)) write_1) (VD.stab _ _) (fun ρ174 w175 g hle hi ht => ?_) ?_
                ·
                  obtain ⟨-, hst, -⟩ := hle
                  replace f_y45 := f_y45.step hst
                  replace f_y46 := f_y46.step hst
                  have h177 : Vr.vd (vC (rSl rU8)) _ _ _ _ := ht 77 rfl
                  obtain ⟨a_y179, c_y179, q178, f_y179⟩ := un_sl h177
                  refine StepOp_plain (op_call Try.call23 (c23_disk_Write (O := ks (ents g ++ [(some b31, Obj.cells [(Value.slice a_y45 v_2.length c_y45), (Value.slice a_y46 v_3.length c_y46), (Value.int .i64 v_4), (Value.bool v_5)].toArray 25), (some b33, Obj.cells [(Value.slice a_d_sectors d.sectors.length c_d_sectors), (Value.slice a_d_pending d.pending.length c_d_pending), (Value.int .i64 d.left), (Value.bool d.stopped)].toArray 25), (some b1, Obj.cells [(Value.slice a_d_sectors d.sectors.length c_d_sectors), (Value.slice a_d_pending d.pending.length c_d_pending), (Value.int .i64 d.left), (Value.bool d.stopped)].toArray 25)]) O) (d := (⟨v_2, v_3, v_4, v_5⟩ : XDisk)) (at_ := (((script.getD i_1.toNat default).at_.toNat : Int).tmod (d.sectors.length : Int))) (b := [(script.getD i_1.toNat default).byte]) hi.ltw f_y45 f_y46 r_y47 (inK_tmod (inK_ofu8 .i64 (by decide) ((script.getD i_1.toNat default).at_))) f_y179 hv180) (by simp only [List.map, Array.toList, (show ev _ (.tmp 70) = _ from (ht 70 rfl)), (show ev _ (.tmp 71) = _ from (ht 71 rfl)), (show ev _ (.tmp 77) = _ from q178)] <;> rfl) ?_)
                  rintro v181 w182 ⟨hx183, h184⟩
                  exact Goes.call hi hx183 h184
                refine Dw_op (VD O [(some b31, Obj.cells [(Value.slice a_y45 v_2.length c_y45), (Value.slice a_y46 v_3.length c_y46), (Value.int .i64 v_4), (Value.bool v_5)].toArray 25), (some b33, Obj.cells [(Value.slice a_d_sectors d.sectors.length c_d_sectors), (Value.slice a_d_pending d.pending.length c_d_pending), (Value.int .i64 d.left), (Value.bool d.stopped)].toArray 25), (some b1, Obj.cells [(Value.slice a_d_sectors d.sectors.length c_d_sectors), (Value.slice a_d_pending d.pending.length c_d_pending), (Value.int .i64 d.left), (Value.bool d.stopped)].toArray 25)] (vT2 (vA rXDisk) (vI .i64)) write_1) (VD.stab _ _) (fun ρ186 w187 g hle hi ht => ?_) ?_
                ·
                  obtain ⟨-, hst, -⟩ := hle
                  have h : Vr.vd (vT2 (vA rXDisk) (vI .i64)) _ _ _ _ := ht 78 rfl
                  refine StepOp_plain (op_move rfl (Goes.same hi h))
                refine Dw_op (VD O [(some b31, Obj.cells [(Value.slice a_y45 v_2.length c_y45), (Value.slice a_y46 v_3.length c_y46), (Value.int .i64 v_4), (Value.bool v_5)].toArray 25), (some b33, Obj.cells [(Value.slice a_d_sectors d.sectors.length c_d_sectors), (Value.slice a_d_pending d.pending.length c_d_pending), (Value.int .i64 d.left), (Value.bool d.stopped)].toArray 25), (some b1, Obj.cells [(Value.slice a_d_sectors d.sectors.length c_d_sectors), (Value.slice a_d_pending d.pending.length c_d_pending), (Value.int .i64 d.left), (Value.bool d.stopped)].toArray 25)] (vA rXDisk) write_1.1) (VD.stab _ _) (fun ρ197 w198 g hle hi ht => ?_) ?_
                ·
                  obtain ⟨-, hst, -⟩ := hle
                  have h200 : Vr.vd (vT2 (vA rXDisk) (vI .i64)) _ _ _ _ := ht 69 rfl
                  obtain ⟨v202, v203, q201, h204, h205⟩ := h200
                  obtain ⟨_, rfl, ⟨_, _, rfl, ⟨a_y206_sectors, c_y206_sectors, rfl, f_y206_sectors⟩, ⟨_, _, rfl, ⟨a_y206_pending, c_y206_pending, rfl, f_y206_pending⟩, ⟨_, _, rfl, ⟨rfl, r_y206_left⟩, rfl⟩⟩⟩⟩ := h204
                  obtain ⟨rfl, r_y207⟩ := h205
                  refine StepOp_plain (op_extract (v := (Value.agg [(Value.slice a_y206_sectors write_1.1.sectors.length c_y206_sectors), (Value.slice a_y206_pending write_1.1.pending.length c_y206_pending), (Value.int .i64 write_1.1.left), (Value.bool write_1.1.stopped)].toArray)) q201 rfl ?_)
                  exact Goes.same hi (show Vr.vd (vA rXDisk) _ _ _ _ from (mkA (mkVia (mk_pair (mk_sl f_y206_sectors) (mk_pair (mk_sl f_y206_pending) (mk_pair (mk_int r_y206_left) mkBool))))))
                refine Dw_op (VD O [(some b31, Obj.cells [(Value.slice a_y45 v_2.length c_y45), (Value.slice a_y46 v_3.length c_y46), (Value.int .i64 v_4), (Value.bool v_5)].toArray 25), (some b33, Obj.cells [(Value.slice a_d_sectors d.sectors.length c_d_sectors), (Value.slice a_d_pending d.pending.length c_d_pending), (Value.int .i64 d.left), (Value.bool d.stopped)].toArray 25), (some b1, Obj.cells [(Value.slice a_d_sectors d.sectors.length c_d_sectors), (Value.slice a_d_pending d.pending.length c_d_pending), (Value.int .i64 d.left), (Value.bool d.stopped)].toArray 25)] (vI .i64) write_1.2) (VD.stab _ _) (fun ρ208 w209 g hle hi ht => ?_) ?_
                ·
                  obtain ⟨-, hst, -⟩ := hle
                  have h211 : Vr.vd (vT2 (vA rXDisk) (vI .i64)) _ _ _ _ := ht 69 rfl
                  obtain ⟨v213, v214, q212, h215, h216⟩ := h211
                  obtain ⟨_, rfl, ⟨_, _, rfl, ⟨a_y217_sectors, c_y217_sectors, rfl, f_y217_sectors⟩, ⟨_, _, rfl, ⟨a_y217_pending, c_y217_pending, rfl, f_y217_pending⟩, ⟨_, _, rfl, ⟨rfl, r_y217_left⟩, rfl⟩⟩⟩⟩ := h215
                  obtain ⟨rfl, r_y218⟩ := h216
                  refine StepOp_plain (op_extract (v := (Value.int .i64 write_1.2)) q212 rfl ?_)
                  exact Goes.same hi (show Vr.vd (vI .i64) _ _ _ _ from ⟨rfl, r_y218⟩)
                refine Dw_op (VN 10 (Obj.cells [(Value.slice none 0 0), (Value.slice none 0 0), (Value.int .i64 0), (Value.bool false)].toArray 25)) (VN.stab _ _) (fun ρ219 w220 g hle hi ht => ?_) ?_
                ·
                  obtain ⟨-, hst, -⟩ := hle
                  refine StepOp_plain (op_alloc ty25 hi ?_)
                  intro b222 w223 hx226 p224 hs225; exact Goes.new hi p224 hs225 hx226
                refine Dw_nil fun w231 g232 hl233 hi234 => ?_
                obtain ⟨-, hst235, -⟩ := hl233
                rintro _ ⟨b238, rfl, h239⟩
                rintro v241 h242
                replace h242 : Vr.vd (vI .i64) _ _ _ _ := h242
                obtain ⟨rfl, r_y243⟩ := h242
                rintro v244 h245
                replace h245 : Vr.vd (vA rXDisk) _ _ _ _ := h245
                obtain ⟨_, rfl, ⟨_, _, rfl, ⟨a_y246_sectors, c_y246_sectors, rfl, f_y246_sectors⟩, ⟨_, _, rfl, ⟨a_y246_pending, c_y246_pending, rfl, f_y246_pending⟩, ⟨_, _, rfl, ⟨rfl, r_y246_left⟩, rfl⟩⟩⟩⟩ := h245
                rintro v247 h248
                replace h248 : Vr.vd (vT2 (vA rXDisk) (vI .i64)) _ _ _ _ := h248
                obtain ⟨v249, v250, rfl, h251, h252⟩ := h248
                obtain ⟨_, rfl, ⟨_, _, rfl, ⟨a_y253_sectors, c_y253_sectors, rfl, f_y253_sectors⟩, ⟨_, _, rfl, ⟨a_y253_pending, c_y253_pending, rfl, f_y253_pending⟩, ⟨_, _, rfl, ⟨rfl, r_y253_left⟩, rfl⟩⟩⟩⟩ := h251
                obtain ⟨rfl, r_y254⟩ := h252
                rintro v255 h256
                replace h256 : Vr.vd (vT2 (vA rXDisk) (vI .i64)) _ _ _ _ := h256
                obtain ⟨v257, v258, rfl, h259, h260⟩ := h256
                obtain ⟨_, rfl, ⟨_, _, rfl, ⟨a_y261_sectors, c_y261_sectors, rfl, f_y261_sectors⟩, ⟨_, _, rfl, ⟨a_y261_pending, c_y261_pending, rfl, f_y261_pending⟩, ⟨_, _, rfl, ⟨rfl, r_y261_left⟩, rfl⟩⟩⟩⟩ := h259
                obtain ⟨rfl, r_y262⟩ := h260
                rintro v263 h264
                replace h264 : Vr.vd (vC (rSl rU8)) _ _ _ _ := h264
                obtain ⟨a_y265, c_y265, rfl, f_y265⟩ := un_sl h264
                rintro _ rfl
                rintro _ ⟨p266, rfl, f267⟩
                rintro _ ⟨p268, rfl, f269⟩
                rintro _ rfl
                rintro _ rfl
                rintro _ rfl
                rintro _ rfl
                obtain ⟨hs237, p236⟩ := Step.nx1 hi234 h239
                have p270 : Step (ks [(some b31, Obj.cells [(Value.slice a_y45 v_2.length c_y45), (Value.slice a_y46 v_3.length c_y46), (Value.int .i64 v_4), (Value.bool v_5)].toArray 25), (some b33, Obj.cells [(Value.slice a_d_sectors d.sectors.length c_d_sectors), (Value.slice a_d_pending d.pending.length c_d_pending), (Value.int .i64 d.left), (Value.bool d.stopped)].toArray 25), (some b1, Obj.cells [(Value.slice a_d_sectors d.sectors.length c_d_sectors), (Value.slice a_d_pending d.pending.length c_d_pending), (Value.int .i64 d.left), (Value.bool d.stopped)].toArray 25)] O) w115 (ks [(some b238, Obj.cells [(Value.slice none 0 0), (Value.slice none 0 0), (Value.int .i64 0), (Value.bool false)].toArray 25), (some b31, Obj.cells [(Value.slice a_y45 v_2.length c_y45), (Value.slice a_y46 v_3.length c_y46), (Value.int .i64 v_4), (Value.bool v_5)].toArray 25), (some b33, Obj.cells [(Value.slice a_d_sectors d.sectors.length c_d_sectors), (Value.slice a_d_pending d.pending.length c_d_pending), (Value.int .i64 d.left), (Value.bool d.stopped)].toArray 25), (some b1, Obj.cells [(Value.slice a_d_sectors d.sectors.length c_d_sectors), (Value.slice a_d_pending d.pending.length c_d_pending), (Value.int .i64 d.left), (Value.bool d.stopped)].toArray 25)] O) w231 := hst235.trans p236
                replace f_y246_sectors := f_y246_sectors.step p236
                replace f_y246_pending := f_y246_pending.step p236
                replace f_y253_sectors := f_y253_sectors.step p236
                replace f_y253_pending := f_y253_pending.step p236
                replace f_y261_sectors := f_y261_sectors.step p236
                replace f_y261_pending := f_y261_pending.step p236
                replace f_y265 := f_y265.step p236
                replace f267 := f267.step p236
                replace f269 := f269.step p236
                replace f_d_sectors := f_d_sectors.step p270
                replace f_d_pending := f_d_pending.step p270
                replace f_script := f_script.step p270
                replace f_y45 := f_y45.step p270
                replace f_y46 := f_y46.step p270
                replace ch59 := ch59.trans p270
                clear p270 hs121
                refine Rg_op_ (op_store (cs := [(Value.slice none 0 0), (Value.slice none 0 0), (Value.int .i64 0), (Value.bool false)]) (vs := [(Value.slice a_y246_sectors write_1.1.sectors.length c_y246_sectors), (Value.slice a_y246_pending write_1.1.pending.length c_y246_pending), (Value.int .i64 write_1.1.left), (Value.bool write_1.1.stopped)]) (cs' := [(Value.slice a_y246_sectors write_1.1.sectors.length c_y246_sectors), (Value.slice a_y246_pending write_1.1.pending.length c_y246_pending), (Value.int .i64 write_1.1.left), (Value.bool write_1.1.stopped)]) (bs' := [(some b238, Obj.cells [(Value.slice a_y246_sectors write_1.1.sectors.length c_y246_sectors), (Value.slice a_y246_pending write_1.1.pending.length c_y246_pending), (Value.int .i64 write_1.1.left), (Value.bool write_1.1.stopped)].toArray 25), (some b31, Obj.cells [(Value.slice a_y45 v_2.length c_y45), (Value.slice a_y46 v_3.length c_y46), (Value.int .i64 v_4), (Value.bool v_5)].toArray 25), (some b33, Obj.cells [(Value.slice a_d_sectors d.sectors.length c_d_sectors), (Value.slice a_d_pending d.pending.length c_d_pending), (Value.int .i64 d.left), (Value.bool d.stopped)].toArray 25), (some b1, Obj.cells [(Value.slice a_d_sectors d.sectors.length c_d_sectors), (Value.slice a_d_pending d.pending.length c_d_pending), (Value.int .i64 d.left), (Value.bool d.stopped)].toArray 25)]) (i := 0) ty25 hs237 rfl rfl rfl rfl rfl (le_lit rfl) rfl rfl rfl ?_)
                intro w271 p272 hs273
                replace f_d_sectors := f_d_sectors.step p272
                replace f_d_pending := f_d_pending.step p272
                replace f_script := f_script.step p272
                replace f_y45 := f_y45.step p272
                replace f_y46 := f_y46.step p272
                replace f_y246_sectors := f_y246_sectors.step p272
                replace f_y246_pending := f_y246_pending.step p272
                replace f_y253_sectors := f_y253_sectors.step p272
                replace f_y253_pending := f_y253_pending.step p272
                replace f_y261_sectors := f_y261_sectors.step p272
                replace f_y261_pending := f_y261_pending.step p272
                replace f_y265 := f_y265.step p272
                replace f267 := f267.step p272
                replace f269 := f269.step p272
                replace ch59 := ch59.trans p272
                clear p272 hs237
                refine Rg_op rfl (op_assign (v := (Value.int .i64 write_1.2)) rfl ?_)
                refine Rg_nil ?_
                refine Wp_seq ?_
                refine Wp_seq ?_
                clear f_y253_sectors f_y253_pending f_y261_sectors f_y261_pending f_y265 f267 f269
                refine Wp_reset2 [4, 7, 8, 9, 10, 11, 49, 50, 51, 52, 53, 54, 55, 56, 57, 58, 59, 60, 61, 62, 63, 64, 65, 66, 67, 68, 69, 70, 71, 72, 73, 74, 75, 76, 77, 78, 79, 80, 81, 82, 83, 84, 85, 86, 87] [] (updL ⟨ξ49, []⟩ [(1, (Value.slice a_script script.length c_script)), (2, (Value.pointer (some ⟨b1, 0, none⟩))), (5, (Value.pointer (some ⟨b31, 0, none⟩))), (6, (Value.pointer (some ⟨b33, 0, none⟩))), (7, (Value.int .i64 0)), (8, (Value.int .i64 0))]) [(8, (Value.int .i64 i_1)), (10, (Value.pointer (some ⟨b238, 0, none⟩))), (11, (Value.int .i64 write_1.2))] (by repeat (first | with_reducible exact Out.refl _ _ | refine Out.upd ?_ rfl | refine Out.updL ?_ rfl | refine Out.mix' ?_ rfl | exact Out.refl _ _)) rfl ⟨rfl, rfl, rfl, trivial⟩ fun ξ274 => ?_
                refine Wp_region ?_  -- 12 law.go:200
                refine Rg_op rfl (op_move (v := (Value.int .i64 write_1.2)) rfl ?_)
                refine Rg_op rfl (op_neq rfl rfl ?_)
                refine Rg_nil ?_
                refine Wp_cond rfl (fun hc275 => ?_) (fun hc275 => ?_)
                ·
                  replace hm := bif_t hm hc275
                  refine Wp_seq ?_
                  clear f_script
                  refine Wp_region ?_  -- 13 law.go:201
                  refine Rg_op rfl (op_assign (v := (Value.bool false)) rfl ?_)
                  refine Rg_nil ?_
                  refine Wp_ret ?_
                  have hz := step_all hs273
                  replace f_d_sectors := f_d_sectors.step hz
                  replace f_d_pending := f_d_pending.step hz
                  replace f_y45 := f_y45.step hz
                  replace f_y46 := f_y46.step hz
                  replace f_y246_sectors := f_y246_sectors.step hz
                  replace f_y246_pending := f_y246_pending.step hz
                  refine ⟨_, (show Closes [] _ _ from rfl), [(Value.bool false)], ⟨rfl, trivial⟩, hs273.ext, ?_⟩
                  exact Vr.eq (a := vB) (x := false) rfl (Option.some.inj hm)
                ·
                  replace hm := bif_f hm hc275
                  refine Wp_skip ?_
                  refine Wp_region ?_  -- 14 law.go:203
                  refine Rg_op rfl (op_loadA (cs := [(Value.slice a_y246_sectors write_1.1.sectors.length c_y246_sectors), (Value.slice a_y246_pending write_1.1.pending.length c_y246_pending), (Value.int .i64 write_1.1.left), (Value.bool write_1.1.stopped)]) (vs := [(Value.slice a_y246_sectors write_1.1.sectors.length c_y246_sectors), (Value.slice a_y246_pending write_1.1.pending.length c_y246_pending), (Value.int .i64 write_1.1.left), (Value.bool write_1.1.stopped)]) (i := 0) ty25 hs273 rfl rfl rfl rfl ?_)
                  replace hm := bd hm; obtain ⟨sync_1, hv276, hm⟩ := hm
                  refine Rg_op rfl (op_call Try.call25 (c25_disk_Sync (d := write_1.1) hs273.ltw f_y246_sectors f_y246_pending r_y246_left hv276) rfl ?_)
                  rintro v277 w278 ⟨hx279, h280⟩
                  have hs281 := hs273.call hx279
                  have p282 := Step.ext (O := ks [(some b238, Obj.cells [(Value.slice a_y246_sectors write_1.1.sectors.length c_y246_sectors), (Value.slice a_y246_pending write_1.1.pending.length c_y246_pending), (Value.int .i64 write_1.1.left), (Value.bool write_1.1.stopped)].toArray 25), (some b31, Obj.cells [(Value.slice a_y45 v_2.length c_y45), (Value.slice a_y46 v_3.length c_y46), (Value.int .i64 v_4), (Value.bool v_5)].toArray 25), (some b33, Obj.cells [(Value.slice a_d_sectors d.sectors.length c_d_sectors), (Value.slice a_d_pending d.pending.length c_d_pending), (Value.int .i64 d.left), (Value.bool d.stopped)].toArray 25), (some b1, Obj.cells [(Value.slice a_d_sectors d.sectors.length c_d_sectors), (Value.slice a_d_pending d.pending.length c_d_pending), (Value.int .i64 d.left), (Value.bool d.stopped)].toArray 25)] O) hx279
                  clear hx279
                  replace f_d_sectors := f_d_sectors.step p282
                  replace f_d_pending := f_d_pending.step p282
                  replace f_script := f_script.step p282
                  replace f_y45 := f_y45.step p282
                  replace f_y46 := f_y46.step p282
                  replace f_y246_sectors := f_y246_sectors.step p282
                  replace f_y246_pending := f_y246_pending.step p282
                  replace ch59 := ch59.trans p282
                  clear p282 hs273
                  obtain ⟨v283, v284, rfl, h285, h286⟩ := h280
                  obtain ⟨_, rfl, ⟨_, _, rfl, ⟨a_y287_sectors, c_y287_sectors, rfl, f_y287_sectors⟩, ⟨_, _, rfl, ⟨a_y287_pending, c_y287_pending, rfl, f_y287_pending⟩, ⟨_, _, rfl, ⟨rfl, r_y287_left⟩, rfl⟩⟩⟩⟩ := h285
                  obtain ⟨rfl, r_y288⟩ := h286
                  refine Rg_op rfl (op_move (v := (Value.tuple [(Value.agg [(Value.slice a_y287_sectors sync_1.1.sectors.length c_y287_sectors), (Value.slice a_y287_pending sync_1.1.pending.length c_y287_pending), (Value.int .i64 sync_1.1.left), (Value.bool sync_1.1.stopped)].toArray), (Value.int .i64 sync_1.2)].toArray)) rfl ?_)
                  refine Rg_op rfl (op_extract (v := (Value.agg [(Value.slice a_y287_sectors sync_1.1.sectors.length c_y287_sectors), (Value.slice a_y287_pending sync_1.1.pending.length c_y287_pending), (Value.int .i64 sync_1.1.left), (Value.bool sync_1.1.stopped)].toArray)) rfl rfl ?_)
                  refine Rg_op rfl (op_extract (v := (Value.int .i64 sync_1.2)) rfl rfl ?_)
                  refine Rg_op_ (op_store (cs := [(Value.slice a_y45 v_2.length c_y45), (Value.slice a_y46 v_3.length c_y46), (Value.int .i64 v_4), (Value.bool v_5)]) (vs := [(Value.slice a_y287_sectors sync_1.1.sectors.length c_y287_sectors), (Value.slice a_y287_pending sync_1.1.pending.length c_y287_pending), (Value.int .i64 sync_1.1.left), (Value.bool sync_1.1.stopped)]) (cs' := [(Value.slice a_y287_sectors sync_1.1.sectors.length c_y287_sectors), (Value.slice a_y287_pending sync_1.1.pending.length c_y287_pending), (Value.int .i64 sync_1.1.left), (Value.bool sync_1.1.stopped)]) (bs' := [(some b238, Obj.cells [(Value.slice a_y246_sectors write_1.1.sectors.length c_y246_sectors), (Value.slice a_y246_pending write_1.1.pending.length c_y246_pending), (Value.int .i64 write_1.1.left), (Value.bool write_1.1.stopped)].toArray 25), (some b31, Obj.cells [(Value.slice a_y287_sectors sync_1.1.sectors.length c_y287_sectors), (Value.slice a_y287_pending sync_1.1.pending.length c_y287_pending), (Value.int .i64 sync_1.1.left), (Value.bool sync_1.1.stopped)].toArray 25), (some b33, Obj.cells [(Value.slice a_d_sectors d.sectors.length c_d_sectors), (Value.slice a_d_pending d.pending.length c_d_pending), (Value.int .i64 d.left), (Value.bool d.stopped)].toArray 25), (some b1, Obj.cells [(Value.slice a_d_sectors d.sectors.length c_d_sectors), (Value.slice a_d_pending d.pending.length c_d_pending), (Value.int .i64 d.left), (Value.bool d.stopped)].toArray 25)]) (i := 1) ty25 hs281 rfl rfl rfl rfl rfl (le_lit rfl) rfl rfl rfl ?_)
                  intro w289 p290 hs291
                  replace f_d_sectors := f_d_sectors.step p290
                  replace f_d_pending := f_d_pending.step p290
                  replace f_script := f_script.step p290
                  replace f_y45 := f_y45.step p290
                  replace f_y46 := f_y46.step p290
                  replace f_y246_sectors := f_y246_sectors.step p290
                  replace f_y246_pending := f_y246_pending.step p290
                  replace f_y287_sectors := f_y287_sectors.step p290
                  replace f_y287_pending := f_y287_pending.step p290
                  replace ch59 := ch59.trans p290
                  clear p290 hs281
                  refine Rg_op rfl (op_assign (v := (Value.int .i64 sync_1.2)) rfl ?_)
                  refine Rg_nil ?_
                  clear f_y45 f_y46
                  refine Wp_region ?_  -- 9 law.go:197
                  refine Rg_op rfl (op_move (v := (Value.int .i64 i_1)) rfl ?_)
                  refine Rg_op rfl (op_addw rfl rfl ?_)
                  refine Rg_op rfl (op_assign (v := (Value.int .i64 (IntKind.wrap .i64 (i_1 + 1)))) rfl ?_)
                  refine Rg_nil ?_
                  have hs292 := hs291.drop 0
                  replace f_d_sectors := f_d_sectors.step (Step.drop _ _ [(some b238, Obj.cells [(Value.slice a_y246_sectors write_1.1.sectors.length c_y246_sectors), (Value.slice a_y246_pending write_1.1.pending.length c_y246_pending), (Value.int .i64 write_1.1.left), (Value.bool write_1.1.stopped)].toArray 25), (some b31, Obj.cells [(Value.slice a_y287_sectors sync_1.1.sectors.length c_y287_sectors), (Value.slice a_y287_pending sync_1.1.pending.length c_y287_pending), (Value.int .i64 sync_1.1.left), (Value.bool sync_1.1.stopped)].toArray 25), (some b33, Obj.cells [(Value.slice a_d_sectors d.sectors.length c_d_sectors), (Value.slice a_d_pending d.pending.length c_d_pending), (Value.int .i64 d.left), (Value.bool d.stopped)].toArray 25), (some b1, Obj.cells [(Value.slice a_d_sectors d.sectors.length c_d_sectors), (Value.slice a_d_pending d.pending.length c_d_pending), (Value.int .i64 d.left), (Value.bool d.stopped)].toArray 25)] 0)
                  replace f_d_pending := f_d_pending.step (Step.drop _ _ [(some b238, Obj.cells [(Value.slice a_y246_sectors write_1.1.sectors.length c_y246_sectors), (Value.slice a_y246_pending write_1.1.pending.length c_y246_pending), (Value.int .i64 write_1.1.left), (Value.bool write_1.1.stopped)].toArray 25), (some b31, Obj.cells [(Value.slice a_y287_sectors sync_1.1.sectors.length c_y287_sectors), (Value.slice a_y287_pending sync_1.1.pending.length c_y287_pending), (Value.int .i64 sync_1.1.left), (Value.bool sync_1.1.stopped)].toArray 25), (some b33, Obj.cells [(Value.slice a_d_sectors d.sectors.length c_d_sectors), (Value.slice a_d_pending d.pending.length c_d_pending), (Value.int .i64 d.left), (Value.bool d.stopped)].toArray 25), (some b1, Obj.cells [(Value.slice a_d_sectors d.sectors.length c_d_sectors), (Value.slice a_d_pending d.pending.length c_d_pending), (Value.int .i64 d.left), (Value.bool d.stopped)].toArray 25)] 0)
                  replace f_script := f_script.step (Step.drop _ _ [(some b238, Obj.cells [(Value.slice a_y246_sectors write_1.1.sectors.length c_y246_sectors), (Value.slice a_y246_pending write_1.1.pending.length c_y246_pending), (Value.int .i64 write_1.1.left), (Value.bool write_1.1.stopped)].toArray 25), (some b31, Obj.cells [(Value.slice a_y287_sectors sync_1.1.sectors.length c_y287_sectors), (Value.slice a_y287_pending sync_1.1.pending.length c_y287_pending), (Value.int .i64 sync_1.1.left), (Value.bool sync_1.1.stopped)].toArray 25), (some b33, Obj.cells [(Value.slice a_d_sectors d.sectors.length c_d_sectors), (Value.slice a_d_pending d.pending.length c_d_pending), (Value.int .i64 d.left), (Value.bool d.stopped)].toArray 25), (some b1, Obj.cells [(Value.slice a_d_sectors d.sectors.length c_d_sectors), (Value.slice a_d_pending d.pending.length c_d_pending), (Value.int .i64 d.left), (Value.bool d.stopped)].toArray 25)] 0)
                  replace f_y246_sectors := f_y246_sectors.step (Step.drop _ _ [(some b238, Obj.cells [(Value.slice a_y246_sectors write_1.1.sectors.length c_y246_sectors), (Value.slice a_y246_pending write_1.1.pending.length c_y246_pending), (Value.int .i64 write_1.1.left), (Value.bool write_1.1.stopped)].toArray 25), (some b31, Obj.cells [(Value.slice a_y287_sectors sync_1.1.sectors.length c_y287_sectors), (Value.slice a_y287_pending sync_1.1.pending.length c_y287_pending), (Value.int .i64 sync_1.1.left), (Value.bool sync_1.1.stopped)].toArray 25), (some b33, Obj.cells [(Value.slice a_d_sectors d.sectors.length c_d_sectors), (Value.slice a_d_pending d.pending.length c_d_pending), (Value.int .i64 d.left), (Value.bool d.stopped)].toArray 25), (some b1, Obj.cells [(Value.slice a_d_sectors d.sectors.length c_d_sectors), (Value.slice a_d_pending d.pending.length c_d_pending), (Value.int .i64 d.left), (Value.bool d.stopped)].toArray 25)] 0)
                  replace f_y246_pending := f_y246_pending.step (Step.drop _ _ [(some b238, Obj.cells [(Value.slice a_y246_sectors write_1.1.sectors.length c_y246_sectors), (Value.slice a_y246_pending write_1.1.pending.length c_y246_pending), (Value.int .i64 write_1.1.left), (Value.bool write_1.1.stopped)].toArray 25), (some b31, Obj.cells [(Value.slice a_y287_sectors sync_1.1.sectors.length c_y287_sectors), (Value.slice a_y287_pending sync_1.1.pending.length c_y287_pending), (Value.int .i64 sync_1.1.left), (Value.bool sync_1.1.stopped)].toArray 25), (some b33, Obj.cells [(Value.slice a_d_sectors d.sectors.length c_d_sectors), (Value.slice a_d_pending d.pending.length c_d_pending), (Value.int .i64 d.left), (Value.bool d.stopped)].toArray 25), (some b1, Obj.cells [(Value.slice a_d_sectors d.sectors.length c_d_sectors), (Value.slice a_d_pending d.pending.length c_d_pending), (Value.int .i64 d.left), (Value.bool d.stopped)].toArray 25)] 0)
                  replace f_y287_sectors := f_y287_sectors.step (Step.drop _ _ [(some b238, Obj.cells [(Value.slice a_y246_sectors write_1.1.sectors.length c_y246_sectors), (Value.slice a_y246_pending write_1.1.pending.length c_y246_pending), (Value.int .i64 write_1.1.left), (Value.bool write_1.1.stopped)].toArray 25), (some b31, Obj.cells [(Value.slice a_y287_sectors sync_1.1.sectors.length c_y287_sectors), (Value.slice a_y287_pending sync_1.1.pending.length c_y287_pending), (Value.int .i64 sync_1.1.left), (Value.bool sync_1.1.stopped)].toArray 25), (some b33, Obj.cells [(Value.slice a_d_sectors d.sectors.length c_d_sectors), (Value.slice a_d_pending d.pending.length c_d_pending), (Value.int .i64 d.left), (Value.bool d.stopped)].toArray 25), (some b1, Obj.cells [(Value.slice a_d_sectors d.sectors.length c_d_sectors), (Value.slice a_d_pending d.pending.length c_d_pending), (Value.int .i64 d.left), (Value.bool d.stopped)].toArray 25)] 0)
                  replace f_y287_pending := f_y287_pending.step (Step.drop _ _ [(some b238, Obj.cells [(Value.slice a_y246_sectors write_1.1.sectors.length c_y246_sectors), (Value.slice a_y246_pending write_1.1.pending.length c_y246_pending), (Value.int .i64 write_1.1.left), (Value.bool write_1.1.stopped)].toArray 25), (some b31, Obj.cells [(Value.slice a_y287_sectors sync_1.1.sectors.length c_y287_sectors), (Value.slice a_y287_pending sync_1.1.pending.length c_y287_pending), (Value.int .i64 sync_1.1.left), (Value.bool sync_1.1.stopped)].toArray 25), (some b33, Obj.cells [(Value.slice a_d_sectors d.sectors.length c_d_sectors), (Value.slice a_d_pending d.pending.length c_d_pending), (Value.int .i64 d.left), (Value.bool d.stopped)].toArray 25), (some b1, Obj.cells [(Value.slice a_d_sectors d.sectors.length c_d_sectors), (Value.slice a_d_pending d.pending.length c_d_pending), (Value.int .i64 d.left), (Value.bool d.stopped)].toArray 25)] 0)
                  replace ch59 := ch59.trans (Step.drop _ _ [(some b238, Obj.cells [(Value.slice a_y246_sectors write_1.1.sectors.length c_y246_sectors), (Value.slice a_y246_pending write_1.1.pending.length c_y246_pending), (Value.int .i64 write_1.1.left), (Value.bool write_1.1.stopped)].toArray 25), (some b31, Obj.cells [(Value.slice a_y287_sectors sync_1.1.sectors.length c_y287_sectors), (Value.slice a_y287_pending sync_1.1.pending.length c_y287_pending), (Value.int .i64 sync_1.1.left), (Value.bool sync_1.1.stopped)].toArray 25), (some b33, Obj.cells [(Value.slice a_d_sectors d.sectors.length c_d_sectors), (Value.slice a_d_pending d.pending.length c_d_pending), (Value.int .i64 d.left), (Value.bool d.stopped)].toArray 25), (some b1, Obj.cells [(Value.slice a_d_sectors d.sectors.length c_d_sectors), (Value.slice a_d_pending d.pending.length c_d_pending), (Value.int .i64 d.left), (Value.bool d.stopped)].toArray 25)] 0)
                  clear hs291
                  exact hK52 _ _ ⟨sync_1.2, (IntKind.wrap .i64 (i_1 + 1)), sync_1.1.sectors, sync_1.1.pending, sync_1.1.left, sync_1.1.stopped, a_y287_sectors, c_y287_sectors, a_y287_pending, c_y287_pending, _, rfl, ⟨(by repeat (first | with_reducible exact Out.refl _ _ | refine Out.upd ?_ rfl | refine Out.updL ?_ rfl | refine Out.mix' ?_ rfl | exact Out.refl _ _)), rfl, rfl, rfl, trivial⟩, ch59, hs292, r_y288, (inK_wrap .i64 _), f_y287_sectors, f_y287_pending, r_y287_left, jnE6 hsf51 hm⟩
              ·
                replace hm := bif_f hm hc70
                refine Wp_exit ?_
                refine Wp_seq ?_
                refine Wp_seq ?_
                refine Wp_region ?_  -- 15 law.go:205
                refine Rg_op rfl (op_assign (v := (Value.int .i64 0)) rfl ?_)
                refine Rg_nil ?_
                refine Wp_block ?_
                refine Wp_reset [] [(1, (Value.slice a_script script.length c_script)), (2, (Value.pointer (some ⟨b1, 0, none⟩))), (5, (Value.pointer (some ⟨b31, 0, none⟩))), (6, (Value.pointer (some ⟨b33, 0, none⟩))), (7, (Value.int .i64 e_1)), (12, (Value.int .i64 0))] rfl ⟨rfl, rfl, rfl, rfl, rfl, rfl, trivial⟩ fun ξ298 => ?_
                refine Wp_loopM [4, 12, 13, 14, 88, 89, 90, 91, 92, 93, 94, 95, 96, 97, 98, 99, 100, 101, 102, 103, 104, 105, 106, 107, 108, 109, 110, 111, 112, 113, 114, 115, 116, 117] (fun m fr w' => ∃ (i_2 : Int) (v_7 : List (List UInt8)) (v_8 : List XWrite) (v_9 : Int) (v_10 : Bool) (a_y294 : Option Addr) (c_y294 : Nat) (a_y295 : Option Addr) (c_y295 : Nat) (Ebs : Ents), Ebs = [(some b31, Obj.cells [(Value.slice a_y45 v_2.length c_y45), (Value.slice a_y46 v_3.length c_y46), (Value.int .i64 v_4), (Value.bool v_5)].toArray 25), (some b33, Obj.cells [(Value.slice a_y294 v_7.length c_y294), (Value.slice a_y295 v_8.length c_y295), (Value.int .i64 v_9), (Value.bool v_10)].toArray 25), (some b1, Obj.cells [(Value.slice a_d_sectors d.sectors.length c_d_sectors), (Value.slice a_d_pending d.pending.length c_d_pending), (Value.int .i64 d.left), (Value.bool d.stopped)].toArray 25)] ∧ fr [] [(12, (Value.int .i64 i_2))] ∧ Step (ks [(some b31, Obj.cells [(Value.slice a_y45 v_2.length c_y45), (Value.slice a_y46 v_3.length c_y46), (Value.int .i64 v_4), (Value.bool v_5)].toArray 25), (some b33, Obj.cells [(Value.slice a_d_sectors d.sectors.length c_d_sectors), (Value.slice a_d_pending d.pending.length c_d_pending), (Value.int .i64 d.left), (Value.bool d.stopped)].toArray 25), (some b1, Obj.cells [(Value.slice a_d_sectors d.sectors.length c_d_sectors), (Value.slice a_d_pending d.pending.length c_d_pending), (Value.int .i64 d.left), (Value.bool d.stopped)].toArray 25)] O) w65 (ks Ebs O) w' ∧ St ⟨w, [], []⟩ O w' Ebs ∧ InK .i64 i_2 ∧ SlR (rSl rU8) w' (ks Ebs O) a_y294 c_y294 v_7 ∧ SlR rXWrite w' (ks Ebs O) a_y295 c_y295 v_8 ∧ InK .i64 v_9 ∧ loop5 (m6_overflightlaw44_DiskTogether_B1 d script e_1 v_2 v_3 v_4 v_5) m i_2 v_7 v_8 v_9 v_10 = some x) (((script.length : Int) - 0).toNat + 1) ⟨0, d.sectors, d.pending, d.left, d.stopped, a_d_sectors, c_d_sectors, a_d_pending, c_d_pending, _, rfl, ⟨Out.refl _ _, rfl, rfl, trivial⟩, Step.refl _ _, hs66, (show InK .i64 0 from by decide), f_d_sectors, f_d_pending, r_d_left, hm⟩ ?_ ?_
                · rintro _ _ ⟨_, _, _, _, _, _, _, _, _, _, _, _, _, _, _, _, _, _, hm⟩; exact loop5_z hm
                · rintro m302 K301 hK301 ρ307 w303 ⟨i_2, v_7, v_8, v_9, v_10, a_y294, c_y294, a_y295, c_y295, Ebs, hEbs, hfr306, hst305, hs304, r_y293, f_y294, f_y295, r_y296, hm⟩
                  obtain ⟨sf299, hsf300, hm⟩ := loop5_s hm; unfold m6_overflightlaw44_DiskTogether_B1 at hm
                  subst hEbs; rw [hfr306.eq]; clear hfr306
                  replace f_d_sectors := f_d_sectors.step hst305
                  replace f_d_pending := f_d_pending.step hst305
                  replace f_script := f_script.step hst305
                  replace f_y45 := f_y45.step hst305
                  replace f_y46 := f_y46.step hst305
                  replace ch59 := ch59.trans hst305
                  have ch308 := hst305
                  refine Wp_seq ?_
                  refine Wp_seq ?_
                  refine Wp_region ?_  -- 16 law.go:205
                  refine Rg_op rfl (op_move (v := (Value.int .i64 i_2)) rfl ?_)
                  refine Rg_op rfl (op_move (v := (Value.slice a_script script.length c_script)) rfl ?_)
                  refine Rg_op rfl (op_len Try.underlying35 rfl ?_)
                  refine Rg_op rfl (op_lss rfl rfl ?_)
                  refine Rg_nil ?_
                  refine Wp_cond rfl (fun hc309 => ?_) (fun hc309 => ?_)
                  ·
                    replace hm := bif_t hm hc309
                    refine Wp_skip ?_
                    refine Wp_seq ?_
                    refine Wp_block ?_
                    refine Wp_seq ?_
                    refine Wp_drawR (g0 := []) (m := 22) (fl := [20]) (TS_inv hs304) (.inl rfl) rfl (by decide +kernel) ?_  -- 18
                    refine Dw_eq (Value.agg [(Value.slice a_y294 v_7.length c_y294), (Value.slice a_y295 v_8.length c_y295), (Value.int .i64 v_9), (Value.bool v_10)].toArray) (fun ρ310 w311 g hle hi ht => ?_) ?_
                    ·
                      obtain ⟨-, hst, -⟩ := hle
                      have hsn := (Step.nx hi).1
                      refine StepOp_plain (op_loadA (cs := [(Value.slice a_y294 v_7.length c_y294), (Value.slice a_y295 v_8.length c_y295), (Value.int .i64 v_9), (Value.bool v_10)]) (vs := [(Value.slice a_y294 v_7.length c_y294), (Value.slice a_y295 v_8.length c_y295), (Value.int .i64 v_9), (Value.bool v_10)]) (i := 1) ty25 hsn (ht 6 rfl) rfl rfl rfl ?_)
                      exact Goes.same hi rfl
                    refine Dw_eq (Value.slice a_script script.length c_script) (fun ρ313 w314 g hle hi ht => ?_) ?_
                    ·
                      obtain ⟨-, hst, -⟩ := hle
                      refine StepOp_plain (op_move (v := (Value.slice a_script script.length c_script)) (ht 1 rfl) ?_)
                      exact Goes.same hi rfl
                    refine Dw_eq (Value.int .i64 i_2) (fun ρ316 w317 g hle hi ht => ?_) ?_
                    ·
                      obtain ⟨-, hst, -⟩ := hle
                      refine StepOp_plain (op_move (v := (Value.int .i64 i_2)) (ht 12 rfl) ?_)
                      exact Goes.same hi rfl
                    replace hm := ck_some hm; obtain ⟨hc322, hm⟩ := hm
                    refine Dw_op (VP O [(some b31, Obj.cells [(Value.slice a_y45 v_2.length c_y45), (Value.slice a_y46 v_3.length c_y46), (Value.int .i64 v_4), (Value.bool v_5)].toArray 25), (some b33, Obj.cells [(Value.slice a_y294 v_7.length c_y294), (Value.slice a_y295 v_8.length c_y295), (Value.int .i64 v_9), (Value.bool v_10)].toArray 25), (some b1, Obj.cells [(Value.slice a_d_sectors d.sectors.length c_d_sectors), (Value.slice a_d_pending d.pending.length c_d_pending), (Value.int .i64 d.left), (Value.bool d.stopped)].toArray 25)] rXAct (script.getD i_2.toNat default)) (VP.stab _ _) (fun ρ319 w320 g hle hi ht => ?_) ?_
                    ·
                      obtain ⟨-, hst, -⟩ := hle
                      replace f_script := f_script.step hst
                      refine StepOp_plain (op_indexAddr (q := rXAct) ty35 ty39 (ht 96 rfl) (ht 97 rfl) f_script rfl hc322.1 hc322.2 ?_)
                      intro p323 f324
                      exact Goes.same hi ⟨_, rfl, f324⟩
                    refine Dw_op (VP O [(some b31, Obj.cells [(Value.slice a_y45 v_2.length c_y45), (Value.slice a_y46 v_3.length c_y46), (Value.int .i64 v_4), (Value.bool v_5)].toArray 25), (some b33, Obj.cells [(Value.slice a_y294 v_7.length c_y294), (Value.slice a_y295 v_8.length c_y295), (Value.int .i64 v_9), (Value.bool v_10)].toArray 25), (some b1, Obj.cells [(Value.slice a_d_sectors d.sectors.length c_d_sectors), (Value.slice a_d_pending d.pending.length c_d_pending), (Value.int .i64 d.left), (Value.bool d.stopped)].toArray 25)] rU8 ((script.getD i_2.toNat default).at_)) (VP.stab _ _) (fun ρ325 w326 g hle hi ht => ?_) ?_
                    ·
                      obtain ⟨-, hst, -⟩ := hle
                      obtain ⟨p328, q329, f330⟩ := ht 98 rfl
                      refine StepOp_plain (op_fieldAddr ty39 rfl ty5 (by decide) q329 rfl ?_)
                      have f331 := f330.via.snd.fst
                      exact Goes.same hi ⟨_, rfl, f331⟩
                    refine Dw_eq (Value.int .u8 (((script.getD i_2.toNat default).at_).toNat : Int)) (fun ρ332 w333 g hle hi ht => ?_) ?_
                    ·
                      obtain ⟨-, hst, -⟩ := hle
                      obtain ⟨p335, q336, f337⟩ := ht 99 rfl
                      refine StepOp_plain (op_loadP ty5 q336 f337 rfl ?_)
                      intro v338 h339
                      obtain rfl := un_u8 h339
                      exact Goes.same hi rfl
                    refine Dw_eq (Value.int .i64 ((script.getD i_2.toNat default).at_.toNat : Int)) (fun ρ341 w342 g hle hi ht => ?_) ?_
                    ·
                      obtain ⟨-, hst, -⟩ := hle
                      refine StepOp_plain (op_conv_u8 Try.underlying5 Try.underlying3 (ht 100 rfl) (by decide) ?_)
                      exact Goes.same hi rfl
                    refine Dw_eq (Value.pointer (some ⟨b1, 0, none⟩)) (fun ρ344 w345 g hle hi ht => ?_) ?_
                    ·
                      obtain ⟨-, hst, -⟩ := hle
                      refine StepOp_plain (op_fieldAddr ty25 rfl ty22 (by decide) (ht 2 rfl) (rfl : _ = (⟨_, 0, none⟩ : Addr)) ?_)
                      exact Goes.same hi rfl
                    refine Dw_eq (Value.slice a_d_sectors d.sectors.length c_d_sectors) (fun ρ347 w348 g hle hi ht => ?_) ?_
                    ·
                      obtain ⟨-, hst, -⟩ := hle
                      have hsn := (Step.nx hi).1
                      refine StepOp_plain (op_load (cs := [(Value.slice a_d_sectors d.sectors.length c_d_sectors), (Value.slice a_d_pending d.pending.length c_d_pending), (Value.int .i64 d.left), (Value.bool d.stopped)]) (i := 2) ty22 hsn (ht 102 rfl) rfl rfl ?_)
                      exact Goes.same hi rfl
                    refine Dw_eq (Value.int .i64 (d.sectors.length : Int)) (fun ρ350 w351 g hle hi ht => ?_) ?_
                    ·
                      obtain ⟨-, hst, -⟩ := hle
                      refine StepOp_plain (op_len Try.underlying22 (ht 103 rfl) ?_)
                      exact Goes.same hi rfl
                    replace hm := ck_some hm; obtain ⟨hc356, hm⟩ := hm
                    refine Dw_eq (Value.int .i64 (((script.getD i_2.toNat default).at_.toNat : Int).tmod (d.sectors.length : Int))) (fun ρ353 w354 g hle hi ht => ?_) ?_
                    ·
                      obtain ⟨-, hst, -⟩ := hle
                      refine StepOp_plain (op_rem (ht 101 rfl) (ht 104 rfl) hc356 ?_)
                      exact Goes.same hi rfl
                    refine Dw_eq (Value.slice a_script script.length c_script) (fun ρ357 w358 g hle hi ht => ?_) ?_
                    ·
                      obtain ⟨-, hst, -⟩ := hle
                      refine StepOp_plain (op_move (v := (Value.slice a_script script.length c_script)) (ht 1 rfl) ?_)
                      exact Goes.same hi rfl
                    refine Dw_eq (Value.int .i64 i_2) (fun ρ360 w361 g hle hi ht => ?_) ?_
                    ·
                      obtain ⟨-, hst, -⟩ := hle
                      refine StepOp_plain (op_move (v := (Value.int .i64 i_2)) (ht 12 rfl) ?_)
                      exact Goes.same hi rfl
                    replace hm := ck_some hm; obtain ⟨hc366, hm⟩ := hm
                    refine Dw_op (VP O [(some b31, Obj.cells [(Value.slice a_y45 v_2.length c_y45), (Value.slice a_y46 v_3.length c_y46), (Value.int .i64 v_4), (Value.bool v_5)].toArray 25), (some b33, Obj.cells [(Value.slice a_y294 v_7.length c_y294), (Value.slice a_y295 v_8.length c_y295), (Value.int .i64 v_9), (Value.bool v_10)].toArray 25), (some b1, Obj.cells [(Value.slice a_d_sectors d.sectors.length c_d_sectors), (Value.slice a_d_pending d.pending.length c_d_pending), (Value.int .i64 d.left), (Value.bool d.stopped)].toArray 25)] rXAct (script.getD i_2.toNat default)) (VP.stab _ _) (fun ρ363 w364 g hle hi ht => ?_) ?_
                    ·
                      obtain ⟨-, hst, -⟩ := hle
                      replace f_script := f_script.step hst
                      refine StepOp_plain (op_indexAddr (q := rXAct) ty35 ty39 (ht 106 rfl) (ht 107 rfl) f_script rfl hc366.1 hc366.2 ?_)
                      intro p367 f368
                      exact Goes.same hi ⟨_, rfl, f368⟩
                    refine Dw_op (VP O [(some b31, Obj.cells [(Value.slice a_y45 v_2.length c_y45), (Value.slice a_y46 v_3.length c_y46), (Value.int .i64 v_4), (Value.bool v_5)].toArray 25), (some b33, Obj.cells [(Value.slice a_y294 v_7.length c_y294), (Value.slice a_y295 v_8.length c_y295), (Value.int .i64 v_9), (Value.bool v_10)].toArray 25), (some b1, Obj.cells [(Value.slice a_d_sectors d.sectors.length c_d_sectors), (Value.slice a_d_pending d.pending.length c_d_pending), (Value.int .i64 d.left), (Value.bool d.stopped)].toArray 25)] rU8 ((script.getD i_2.toNat default).byte)) (VP.stab _ _) (fun ρ369 w370 g hle hi ht => ?_) ?_
                    ·
                      obtain ⟨-, hst, -⟩ := hle
                      obtain ⟨p372, q373, f374⟩ := ht 108 rfl
                      refine StepOp_plain (op_fieldAddr ty39 rfl ty5 (by decide) q373 rfl ?_)
                      have f375 := f374.via.snd.snd
                      exact Goes.same hi ⟨_, rfl, f375⟩
                    refine Dw_eq (Value.int .u8 (((script.getD i_2.toNat default).byte).toNat : Int)) (fun ρ376 w377 g hle hi ht => ?_) ?_
                    ·
                      obtain ⟨-, hst, -⟩ := hle
                      obtain ⟨p379, q380, f381⟩ := ht 109 rfl
                      refine StepOp_plain (op_loadP ty5 q380 f381 rfl ?_)
                      intro v382 h383
                      obtain rfl := un_u8 h383
                      exact Goes.same hi rfl
                    refine Dw_op (VD O [(some b31, Obj.cells [(Value.slice a_y45 v_2.length c_y45), (Value.slice a_y46 v_3.length c_y46), (Value.int .i64 v_4), (Value.bool v_5)].toArray 25), (some b33, Obj.cells [(Value.slice a_y294 v_7.length c_y294), (Value.slice a_y295 v_8.length c_y295), (Value.int .i64 v_9), (Value.bool v_10)].toArray 25), (some b1, Obj.cells [(Value.slice a_d_sectors d.sectors.length c_d_sectors), (Value.slice a_d_pending d.pending.length c_d_pending), (Value.int .i64 d.left), (Value.bool d.stopped)].toArray 25)] (vC (rSl rU8)) [(script.getD i_2.toNat default).byte]) (VD.stab _ _) (fun ρ385 w386 g hle hi ht => ?_) ?_
                    ·
                      obtain ⟨-, hst, -⟩ := hle
                      replace f_d_sectors := f_d_sectors.step hst
                      replace f_d_pending := f_d_pending.step hst
                      replace f_script := f_script.step hst
                      replace f_y45 := f_y45.step hst
                      replace f_y46 := f_y46.step hst
                      replace f_y294 := f_y294.step hst
                      replace f_y295 := f_y295.step hst
                      refine StepOp_plain (op_buildSlice (cs := [(Value.int .u8 (((script.getD i_2.toNat default).byte).toNat : Int))]) (parts := [(0, .tmp 110)]) ty41 ty5 hi (by decide) (by simp only [List.map, (show ev _ (.tmp 110) = _ from (ht 110 rfl))]; rfl) ?_)
                      intro b388 w389 hx392 p390 hs391
                      replace f_d_sectors := f_d_sectors.step p390
                      replace f_d_pending := f_d_pending.step p390
                      replace f_script := f_script.step p390
                      replace f_y45 := f_y45.step p390
                      replace f_y46 := f_y46.step p390
                      replace f_y294 := f_y294.step p390
                      replace f_y295 := f_y295.step p390
                      obtain ⟨hs394, p395, f396⟩ := St.publish (i := 0) (o := 0) (c := 1) (xs := [(script.getD i_2.toNat default).byte]) hs391 rfl (show Els rU8 _ _ [(Value.int .u8 (((script.getD i_2.toNat default).byte).toNat : Int))] [(script.getD i_2.toNat default).byte] from ⟨_, _, rfl, mkU8, Els.nil⟩) (le_lit rfl) (le_lit rfl) (le_lit rfl)
                      exact Goes.pub hi hs394 (Step.trans p390 p395) hx392 (show Vr.vd (vC (rSl rU8)) _ _ _ _ from mkC (mk_sl f396))
                    replace hm := bd hm; obtain ⟨write_2, hv403, hm⟩ := hm
                    refine Dw_op (VD O [(some b31, Obj.cells [(Value.slice a_y45 v_2.length c_y45), (Value.slice a_y46 v_3.length c_y46), (Value.int .i64 v_4), (Value.bool v_5)].toArray 25), (some b33, Obj.cells [(Value.slice a_y294 v_7.length c_y294), (Value.slice a_y295 v_8.length c_y295), (Value.int .i64 v_9), (Value.bool v_10)].toArray 25), (some b1, Obj.cells [(Value.slice a_d_sectors d.sectors.length c_d_sectors), (Value.slice a_d_pending d.pending.length c_d_pending), (Value.int .i64 d.left), (Value.bool d.stopped)].toArray 25)] (vT2 (vA rXDisk) (vI .i64)) write_2) (VD.stab _ _) (fun ρ397 w398 g hle hi ht => ?_) ?_
                    ·
                      obtain ⟨-, hst, -⟩ := hle
                      replace f_y294 := f_y294.step hst
                      replace f_y295 := f_y295.step hst
                      have h400 : Vr.vd (vC (rSl rU8)) _ _ _ _ := ht 111 rfl
                      obtain ⟨a_y402, c_y402, q401, f_y402⟩ := un_sl h400
                      refine StepOp_plain (op_call Try.call23 (c23_disk_Write (O := ks (ents g ++ [(some b31, Obj.cells [(Value.slice a_y45 v_2.length c_y45), (Value.slice a_y46 v_3.length c_y46), (Value.int .i64 v_4), (Value.bool v_5)].toArray 25), (some b33, Obj.cells [(Value.slice a_y294 v_7.length c_y294), (Value.slice a_y295 v_8.length c_y295), (Value.int .i64 v_9), (Value.bool v_10)].toArray 25), (some b1, Obj.cells [(Value.slice a_d_sectors d.sectors.length c_d_sectors), (Value.slice a_d_pending d.pending.length c_d_pending), (Value.int .i64 d.left), (Value.bool d.stopped)].toArray 25)]) O) (d := (⟨v_7, v_8, v_9, v_10⟩ : XDisk)) (at_ := (((script.getD i_2.toNat default).at_.toNat : Int).tmod (d.sectors.length : Int))) (b := [(script.getD i_2.toNat default).byte]) hi.ltw f_y294 f_y295 r_y296 (inK_tmod (inK_ofu8 .i64 (by decide) ((script.getD i_2.toNat default).at_))) f_y402 hv403) (by simp only [List.map, Array.toList, (show ev _ (.tmp 95) = _ from (ht 95 rfl)), (show ev _ (.tmp 105) = _ from (ht 105 rfl)), (show ev _ (.tmp 111) = _ from q401)] <;> rfl) ?_)
                      rintro v404 w405 ⟨hx406, h407⟩
                      exact Goes.call hi hx406 h407
                    refine Dw_op (VD O [(some b31, Obj.cells [(Value.slice a_y45 v_2.length c_y45), (Value.slice a_y46 v_3.length c_y46), (Value.int .i64 v_4), (Value.bool v_5)].toArray 25), (some b33, Obj.cells [(Value.slice a_y294 v_7.length c_y294), (Value.slice a_y295 v_8.length c_y295), (Value.int .i64 v_9), (Value.bool v_10)].toArray 25), (some b1, Obj.cells [(Value.slice a_d_sectors d.sectors.length c_d_sectors), (Value.slice a_d_pending d.pending.length c_d_pending), (Value.int .i64 d.left), (Value.bool d.stopped)].toArray 25)] (vT2 (vA rXDisk) (vI .i64)) write_2) (VD.stab _ _) (fun ρ409 w410 g hle hi ht => ?_) ?_
                    ·
                      obtain ⟨-, hst, -⟩ := hle
                      have h : Vr.vd (vT2 (vA rXDisk) (vI .i64)) _ _ _ _ := ht 112 rfl
                      refine StepOp_plain (op_move rfl (Goes.same hi h))
                    refine Dw_op (VD O [(some b31, Obj.cells [(Value.slice a_y45 v_2.length c_y45), (Value.slice a_y46 v_3.length c_y46), (Value.int .i64 v_4), (Value.bool v_5)].toArray 25), (some b33, Obj.cells [(Value.slice a_y294 v_7.length c_y294), (Value.slice a_y295 v_8.length c_y295), (Value.int .i64 v_9), (Value.bool v_10)].toArray 25), (some b1, Obj.cells [(Value.slice a_d_sectors d.sectors.length c_d_sectors), (Value.slice a_d_pending d.pending.length c_d_pending), (Value.int .i64 d.left), (Value.bool d.stopped)].toArray 25)] (vA rXDisk) write_2.1) (VD.stab _ _) (fun ρ420 w421 g hle hi ht => ?_) ?_
                    ·
                      obtain ⟨-, hst, -⟩ := hle
                      have h423 : Vr.vd (vT2 (vA rXDisk) (vI .i64)) _ _ _ _ := ht 94 rfl
                      obtain ⟨v425, v426, q424, h427, h428⟩ := h423
                      obtain ⟨_, rfl, ⟨_, _, rfl, ⟨a_y429_sectors, c_y429_sectors, rfl, f_y429_sectors⟩, ⟨_, _, rfl, ⟨a_y429_pending, c_y429_pending, rfl, f_y429_pending⟩, ⟨_, _, rfl, ⟨rfl, r_y429_left⟩, rfl⟩⟩⟩⟩ := h427
                      obtain ⟨rfl, r_y430⟩ := h428
                      refine StepOp_plain (op_extract (v := (Value.agg [(Value.slice a_y429_sectors write_2.1.sectors.length c_y429_sectors), (Value.slice a_y429_pending write_2.1.pending.length c_y429_pending), (Value.int .i64 write_2.1.left), (Value.bool write_2.1.stopped)].toArray)) q424 rfl ?_)
                      exact Goes.same hi (show Vr.vd (vA rXDisk) _ _ _ _ from (mkA (mkVia (mk_pair (mk_sl f_y429_sectors) (mk_pair (mk_sl f_y429_pending) (mk_pair (mk_int r_y429_left) mkBool))))))
                    refine Dw_op (VD O [(some b31, Obj.cells [(Value.slice a_y45 v_2.length c_y45), (Value.slice a_y46 v_3.length c_y46), (Value.int .i64 v_4), (Value.bool v_5)].toArray 25), (some b33, Obj.cells [(Value.slice a_y294 v_7.length c_y294), (Value.slice a_y295 v_8.length c_y295), (Value.int .i64 v_9), (Value.bool v_10)].toArray 25), (some b1, Obj.cells [(Value.slice a_d_sectors d.sectors.length c_d_sectors), (Value.slice a_d_pending d.pending.length c_d_pending), (Value.int .i64 d.left), (Value.bool d.stopped)].toArray 25)] (vI .i64) write_2.2) (VD.stab _ _) (fun ρ431 w432 g hle hi ht => ?_) ?_
                    ·
                      obtain ⟨-, hst, -⟩ := hle
                      have h434 : Vr.vd (vT2 (vA rXDisk) (vI .i64)) _ _ _ _ := ht 94 rfl
                      obtain ⟨v436, v437, q435, h438, h439⟩ := h434
                      obtain ⟨_, rfl, ⟨_, _, rfl, ⟨a_y440_sectors, c_y440_sectors, rfl, f_y440_sectors⟩, ⟨_, _, rfl, ⟨a_y440_pending, c_y440_pending, rfl, f_y440_pending⟩, ⟨_, _, rfl, ⟨rfl, r_y440_left⟩, rfl⟩⟩⟩⟩ := h438
                      obtain ⟨rfl, r_y441⟩ := h439
                      refine StepOp_plain (op_extract (v := (Value.int .i64 write_2.2)) q435 rfl ?_)
                      exact Goes.same hi (show Vr.vd (vI .i64) _ _ _ _ from ⟨rfl, r_y441⟩)
                    refine Dw_op (VN 13 (Obj.cells [(Value.slice none 0 0), (Value.slice none 0 0), (Value.int .i64 0), (Value.bool false)].toArray 25)) (VN.stab _ _) (fun ρ442 w443 g hle hi ht => ?_) ?_
                    ·
                      obtain ⟨-, hst, -⟩ := hle
                      refine StepOp_plain (op_alloc ty25 hi ?_)
                      intro b445 w446 hx449 p447 hs448; exact Goes.new hi p447 hs448 hx449
                    refine Dw_nil fun w454 g455 hl456 hi457 => ?_
                    obtain ⟨-, hst458, -⟩ := hl456
                    rintro _ ⟨b461, rfl, h462⟩
                    rintro v464 h465
                    replace h465 : Vr.vd (vI .i64) _ _ _ _ := h465
                    obtain ⟨rfl, r_y466⟩ := h465
                    rintro v467 h468
                    replace h468 : Vr.vd (vA rXDisk) _ _ _ _ := h468
                    obtain ⟨_, rfl, ⟨_, _, rfl, ⟨a_y469_sectors, c_y469_sectors, rfl, f_y469_sectors⟩, ⟨_, _, rfl, ⟨a_y469_pending, c_y469_pending, rfl, f_y469_pending⟩, ⟨_, _, rfl, ⟨rfl, r_y469_left⟩, rfl⟩⟩⟩⟩ := h468
                    rintro v470 h471
                    replace h471 : Vr.vd (vT2 (vA rXDisk) (vI .i64)) _ _ _ _ := h471
                    obtain ⟨v472, v473, rfl, h474, h475⟩ := h471
                    obtain ⟨_, rfl, ⟨_, _, rfl, ⟨a_y476_sectors, c_y476_sectors, rfl, f_y476_sectors⟩, ⟨_, _, rfl, ⟨a_y476_pending, c_y476_pending, rfl, f_y476_pending⟩, ⟨_, _, rfl, ⟨rfl, r_y476_left⟩, rfl⟩⟩⟩⟩ := h474
                    obtain ⟨rfl, r_y477⟩ := h475
                    rintro v478 h479
                    replace h479 : Vr.vd (vT2 (vA rXDisk) (vI .i64)) _ _ _ _ := h479
                    obtain ⟨v480, v481, rfl, h482, h483⟩ := h479
                    obtain ⟨_, rfl, ⟨_, _, rfl, ⟨a_y484_sectors, c_y484_sectors, rfl, f_y484_sectors⟩, ⟨_, _, rfl, ⟨a_y484_pending, c_y484_pending, rfl, f_y484_pending⟩, ⟨_, _, rfl, ⟨rfl, r_y484_left⟩, rfl⟩⟩⟩⟩ := h482
                    obtain ⟨rfl, r_y485⟩ := h483
                    rintro v486 h487
                    replace h487 : Vr.vd (vC (rSl rU8)) _ _ _ _ := h487
                    obtain ⟨a_y488, c_y488, rfl, f_y488⟩ := un_sl h487
                    rintro _ rfl
                    rintro _ ⟨p489, rfl, f490⟩
                    rintro _ ⟨p491, rfl, f492⟩
                    rintro _ rfl
                    rintro _ rfl
                    rintro _ rfl
                    rintro _ rfl
                    rintro _ rfl
                    rintro _ rfl
                    rintro _ rfl
                    rintro _ rfl
                    rintro _ ⟨p493, rfl, f494⟩
                    rintro _ ⟨p495, rfl, f496⟩
                    rintro _ rfl
                    rintro _ rfl
                    rintro _ rfl
                    obtain ⟨hs460, p459⟩ := Step.nx1 hi457 h462
                    have p497 : Step (ks [(some b31, Obj.cells [(Value.slice a_y45 v_2.length c_y45), (Value.slice a_y46 v_3.length c_y46), (Value.int .i64 v_4), (Value.bool v_5)].toArray 25), (some b33, Obj.cells [(Value.slice a_y294 v_7.length c_y294), (Value.slice a_y295 v_8.length c_y295), (Value.int .i64 v_9), (Value.bool v_10)].toArray 25), (some b1, Obj.cells [(Value.slice a_d_sectors d.sectors.length c_d_sectors), (Value.slice a_d_pending d.pending.length c_d_pending), (Value.int .i64 d.left), (Value.bool d.stopped)].toArray 25)] O) w303 (ks [(some b461, Obj.cells [(Value.slice none 0 0), (Value.slice none 0 0), (Value.int .i64 0), (Value.bool false)].toArray 25), (some b31, Obj.cells [(Value.slice a_y45 v_2.length c_y45), (Value.slice a_y46 v_3.length c_y46), (Value.int .i64 v_4), (Value.bool v_5)].toArray 25), (some b33, Obj.cells [(Value.slice a_y294 v_7.length c_y294), (Value.slice a_y295 v_8.length c_y295), (Value.int .i64 v_9), (Value.bool v_10)].toArray 25), (some b1, Obj.cells [(Value.slice a_d_sectors d.sectors.length c_d_sectors), (Value.slice a_d_pending d.pending.length c_d_pending), (Value.int .i64 d.left), (Value.bool d.stopped)].toArray 25)] O) w454 := hst458.trans p459
                    replace f_y469_sectors := f_y469_sectors.step p459
                    replace f_y469_pending := f_y469_pending.step p459
                    replace f_y476_sectors := f_y476_sectors.step p459
                    replace f_y476_pending := f_y476_pending.step p459
                    replace f_y484_sectors := f_y484_sectors.step p459
                    replace f_y484_pending := f_y484_pending.step p459
                    replace f_y488 := f_y488.step p459
                    replace f490 := f490.step p459
                    replace f492 := f492.step p459
                    replace f494 := f494.step p459
                    replace f496 := f496.step p459
                    replace f_d_sectors := f_d_sectors.step p497
                    replace f_d_pending := f_d_pending.step p497
                    replace f_script := f_script.step p497
                    replace f_y45 := f_y45.step p497
                    replace f_y46 := f_y46.step p497
                    replace f_y294 := f_y294.step p497
                    replace f_y295 := f_y295.step p497
                    replace ch59 := ch59.trans p497
                    replace ch308 := ch308.trans p497
                    clear p497 hs304
                    refine Rg_op_ (op_store (cs := [(Value.slice none 0 0), (Value.slice none 0 0), (Value.int .i64 0), (Value.bool false)]) (vs := [(Value.slice a_y469_sectors write_2.1.sectors.length c_y469_sectors), (Value.slice a_y469_pending write_2.1.pending.length c_y469_pending), (Value.int .i64 write_2.1.left), (Value.bool write_2.1.stopped)]) (cs' := [(Value.slice a_y469_sectors write_2.1.sectors.length c_y469_sectors), (Value.slice a_y469_pending write_2.1.pending.length c_y469_pending), (Value.int .i64 write_2.1.left), (Value.bool write_2.1.stopped)]) (bs' := [(some b461, Obj.cells [(Value.slice a_y469_sectors write_2.1.sectors.length c_y469_sectors), (Value.slice a_y469_pending write_2.1.pending.length c_y469_pending), (Value.int .i64 write_2.1.left), (Value.bool write_2.1.stopped)].toArray 25), (some b31, Obj.cells [(Value.slice a_y45 v_2.length c_y45), (Value.slice a_y46 v_3.length c_y46), (Value.int .i64 v_4), (Value.bool v_5)].toArray 25), (some b33, Obj.cells [(Value.slice a_y294 v_7.length c_y294), (Value.slice a_y295 v_8.length c_y295), (Value.int .i64 v_9), (Value.bool v_10)].toArray 25), (some b1, Obj.cells [(Value.slice a_d_sectors d.sectors.length c_d_sectors), (Value.slice a_d_pending d.pending.length c_d_pending), (Value.int .i64 d.left), (Value.bool d.stopped)].toArray 25)]) (i := 0) ty25 hs460 rfl rfl rfl rfl rfl (le_lit rfl) rfl rfl rfl ?_)
                    intro w498 p499 hs500
                    replace f_d_sectors := f_d_sectors.step p499
                    replace f_d_pending := f_d_pending.step p499
                    replace f_script := f_script.step p499
                    replace f_y45 := f_y45.step p499
                    replace f_y46 := f_y46.step p499
                    replace f_y294 := f_y294.step p499
                    replace f_y295 := f_y295.step p499
                    replace f_y469_sectors := f_y469_sectors.step p499
                    replace f_y469_pending := f_y469_pending.step p499
                    replace f_y476_sectors := f_y476_sectors.step p499
                    replace f_y476_pending := f_y476_pending.step p499
                    replace f_y484_sectors := f_y484_sectors.step p499
                    replace f_y484_pending := f_y484_pending.step p499
                    replace f_y488 := f_y488.step p499
                    replace f490 := f490.step p499
                    replace f492 := f492.step p499
                    replace f494 := f494.step p499
                    replace f496 := f496.step p499
                    replace ch59 := ch59.trans p499
                    replace ch308 := ch308.trans p499
                    clear p499 hs460
                    refine Rg_op rfl (op_assign (v := (Value.int .i64 write_2.2)) rfl ?_)
                    refine Rg_nil ?_
                    refine Wp_seq ?_
                    refine Wp_seq ?_
                    clear f_y476_sectors f_y476_pending f_y484_sectors f_y484_pending f_y488 f490 f492 f494 f496
                    refine Wp_reset2 [4, 12, 13, 14, 88, 89, 90, 91, 92, 93, 94, 95, 96, 97, 98, 99, 100, 101, 102, 103, 104, 105, 106, 107, 108, 109, 110, 111, 112, 113, 114, 115, 116, 117] [] (updL ⟨ξ298, []⟩ [(1, (Value.slice a_script script.length c_script)), (2, (Value.pointer (some ⟨b1, 0, none⟩))), (5, (Value.pointer (some ⟨b31, 0, none⟩))), (6, (Value.pointer (some ⟨b33, 0, none⟩))), (7, (Value.int .i64 e_1)), (12, (Value.int .i64 0))]) [(12, (Value.int .i64 i_2)), (13, (Value.pointer (some ⟨b461, 0, none⟩))), (14, (Value.int .i64 write_2.2))] (by repeat (first | with_reducible exact Out.refl _ _ | refine Out.upd ?_ rfl | refine Out.updL ?_ rfl | refine Out.mix' ?_ rfl | exact Out.refl _ _)) rfl ⟨rfl, rfl, rfl, trivial⟩ fun ξ501 => ?_
                    refine Wp_region ?_  -- 19 law.go:207
                    refine Rg_op rfl (op_move (v := (Value.int .i64 write_2.2)) rfl ?_)
                    refine Rg_op rfl (op_neq rfl rfl ?_)
                    refine Rg_nil ?_
                    refine Wp_cond rfl (fun hc502 => ?_) (fun hc502 => ?_)
                    ·
                      replace hm := bif_t hm hc502
                      refine Wp_seq ?_
                      clear f_script
                      refine Wp_region ?_  -- 20 law.go:208
                      refine Rg_op rfl (op_assign (v := (Value.bool false)) rfl ?_)
                      refine Rg_nil ?_
                      refine Wp_ret ?_
                      have hz := step_all hs500
                      replace f_d_sectors := f_d_sectors.step hz
                      replace f_d_pending := f_d_pending.step hz
                      replace f_y45 := f_y45.step hz
                      replace f_y46 := f_y46.step hz
                      replace f_y294 := f_y294.step hz
                      replace f_y295 := f_y295.step hz
                      replace f_y469_sectors := f_y469_sectors.step hz
                      replace f_y469_pending := f_y469_pending.step hz
                      refine ⟨_, (show Closes [] _ _ from rfl), [(Value.bool false)], ⟨rfl, trivial⟩, hs500.ext, ?_⟩
                      exact Vr.eq (a := vB) (x := false) rfl (Option.some.inj hm)
                    ·
                      replace hm := bif_f hm hc502
                      refine Wp_skip ?_
                      refine Wp_region ?_  -- 21 law.go:210
                      refine Rg_op rfl (op_loadA (cs := [(Value.slice a_y469_sectors write_2.1.sectors.length c_y469_sectors), (Value.slice a_y469_pending write_2.1.pending.length c_y469_pending), (Value.int .i64 write_2.1.left), (Value.bool write_2.1.stopped)]) (vs := [(Value.slice a_y469_sectors write_2.1.sectors.length c_y469_sectors), (Value.slice a_y469_pending write_2.1.pending.length c_y469_pending), (Value.int .i64 write_2.1.left), (Value.bool write_2.1.stopped)]) (i := 0) ty25 hs500 rfl rfl rfl rfl ?_)
                      refine Rg_op_ (op_store (cs := [(Value.slice a_y294 v_7.length c_y294), (Value.slice a_y295 v_8.length c_y295), (Value.int .i64 v_9), (Value.bool v_10)]) (vs := [(Value.slice a_y469_sectors write_2.1.sectors.length c_y469_sectors), (Value.slice a_y469_pending write_2.1.pending.length c_y469_pending), (Value.int .i64 write_2.1.left), (Value.bool write_2.1.stopped)]) (cs' := [(Value.slice a_y469_sectors write_2.1.sectors.length c_y469_sectors), (Value.slice a_y469_pending write_2.1.pending.length c_y469_pending), (Value.int .i64 write_2.1.left), (Value.bool write_2.1.stopped)]) (bs' := [(some b461, Obj.cells [(Value.slice a_y469_sectors write_2.1.sectors.length c_y469_sectors), (Value.slice a_y469_pending write_2.1.pending.length c_y469_pending), (Value.int .i64 write_2.1.left), (Value.bool write_2.1.stopped)].toArray 25), (some b31, Obj.cells [(Value.slice a_y45 v_2.length c_y45), (Value.slice a_y46 v_3.length c_y46), (Value.int .i64 v_4), (Value.bool v_5)].toArray 25), (some b33, Obj.cells [(Value.slice a_y469_sectors write_2.1.sectors.length c_y469_sectors), (Value.slice a_y469_pending write_2.1.pending.length c_y469_pending), (Value.int .i64 write_2.1.left), (Value.bool write_2.1.stopped)].toArray 25), (some b1, Obj.cells [(Value.slice a_d_sectors d.sectors.length c_d_sectors), (Value.slice a_d_pending d.pending.length c_d_pending), (Value.int .i64 d.left), (Value.bool d.stopped)].toArray 25)]) (i := 2) ty25 hs500 rfl rfl rfl rfl rfl (le_lit rfl) rfl rfl rfl ?_)
                      intro w503 p504 hs505
                      replace f_d_sectors := f_d_sectors.step p504
                      replace f_d_pending := f_d_pending.step p504
                      replace f_script := f_script.step p504
                      replace f_y45 := f_y45.step p504
                      replace f_y46 := f_y46.step p504
                      replace f_y294 := f_y294.step p504
                      replace f_y295 := f_y295.step p504
                      replace f_y469_sectors := f_y469_sectors.step p504
                      replace f_y469_pending := f_y469_pending.step p504
                      replace ch59 := ch59.trans p504
                      replace ch308 := ch308.trans p504
                      clear p504 hs500
                      refine Rg_nil ?_
                      clear f_y294 f_y295
                      refine Wp_region ?_  -- 17 law.go:205
                      refine Rg_op rfl (op_move (v := (Value.int .i64 i_2)) rfl ?_)
                      refine Rg_op rfl (op_addw rfl rfl ?_)
                      refine Rg_op rfl (op_assign (v := (Value.int .i64 (IntKind.wrap .i64 (i_2 + 1)))) rfl ?_)
                      refine Rg_nil ?_
                      have hs506 := hs505.drop 0
                      replace f_d_sectors := f_d_sectors.step (Step.drop _ _ [(some b461, Obj.cells [(Value.slice a_y469_sectors write_2.1.sectors.length c_y469_sectors), (Value.slice a_y469_pending write_2.1.pending.length c_y469_pending), (Value.int .i64 write_2.1.left), (Value.bool write_2.1.stopped)].toArray 25), (some b31, Obj.cells [(Value.slice a_y45 v_2.length c_y45), (Value.slice a_y46 v_3.length c_y46), (Value.int .i64 v_4), (Value.bool v_5)].toArray 25), (some b33, Obj.cells [(Value.slice a_y469_sectors write_2.1.sectors.length c_y469_sectors), (Value.slice a_y469_pending write_2.1.pending.length c_y469_pending), (Value.int .i64 write_2.1.left), (Value.bool write_2.1.stopped)].toArray 25), (some b1, Obj.cells [(Value.slice a_d_sectors d.sectors.length c_d_sectors), (Value.slice a_d_pending d.pending.length c_d_pending), (Value.int .i64 d.left), (Value.bool d.stopped)].toArray 25)] 0)
                      replace f_d_pending := f_d_pending.step (Step.drop _ _ [(some b461, Obj.cells [(Value.slice a_y469_sectors write_2.1.sectors.length c_y469_sectors), (Value.slice a_y469_pending write_2.1.pending.length c_y469_pending), (Value.int .i64 write_2.1.left), (Value.bool write_2.1.stopped)].toArray 25), (some b31, Obj.cells [(Value.slice a_y45 v_2.length c_y45), (Value.slice a_y46 v_3.length c_y46), (Value.int .i64 v_4), (Value.bool v_5)].toArray 25), (some b33, Obj.cells [(Value.slice a_y469_sectors write_2.1.sectors.length c_y469_sectors), (Value.slice a_y469_pending write_2.1.pending.length c_y469_pending), (Value.int .i64 write_2.1.left), (Value.bool write_2.1.stopped)].toArray 25), (some b1, Obj.cells [(Value.slice a_d_sectors d.sectors.length c_d_sectors), (Value.slice a_d_pending d.pending.length c_d_pending), (Value.int .i64 d.left), (Value.bool d.stopped)].toArray 25)] 0)
                      replace f_script := f_script.step (Step.drop _ _ [(some b461, Obj.cells [(Value.slice a_y469_sectors write_2.1.sectors.length c_y469_sectors), (Value.slice a_y469_pending write_2.1.pending.length c_y469_pending), (Value.int .i64 write_2.1.left), (Value.bool write_2.1.stopped)].toArray 25), (some b31, Obj.cells [(Value.slice a_y45 v_2.length c_y45), (Value.slice a_y46 v_3.length c_y46), (Value.int .i64 v_4), (Value.bool v_5)].toArray 25), (some b33, Obj.cells [(Value.slice a_y469_sectors write_2.1.sectors.length c_y469_sectors), (Value.slice a_y469_pending write_2.1.pending.length c_y469_pending), (Value.int .i64 write_2.1.left), (Value.bool write_2.1.stopped)].toArray 25), (some b1, Obj.cells [(Value.slice a_d_sectors d.sectors.length c_d_sectors), (Value.slice a_d_pending d.pending.length c_d_pending), (Value.int .i64 d.left), (Value.bool d.stopped)].toArray 25)] 0)
                      replace f_y45 := f_y45.step (Step.drop _ _ [(some b461, Obj.cells [(Value.slice a_y469_sectors write_2.1.sectors.length c_y469_sectors), (Value.slice a_y469_pending write_2.1.pending.length c_y469_pending), (Value.int .i64 write_2.1.left), (Value.bool write_2.1.stopped)].toArray 25), (some b31, Obj.cells [(Value.slice a_y45 v_2.length c_y45), (Value.slice a_y46 v_3.length c_y46), (Value.int .i64 v_4), (Value.bool v_5)].toArray 25), (some b33, Obj.cells [(Value.slice a_y469_sectors write_2.1.sectors.length c_y469_sectors), (Value.slice a_y469_pending write_2.1.pending.length c_y469_pending), (Value.int .i64 write_2.1.left), (Value.bool write_2.1.stopped)].toArray 25), (some b1, Obj.cells [(Value.slice a_d_sectors d.sectors.length c_d_sectors), (Value.slice a_d_pending d.pending.length c_d_pending), (Value.int .i64 d.left), (Value.bool d.stopped)].toArray 25)] 0)
                      replace f_y46 := f_y46.step (Step.drop _ _ [(some b461, Obj.cells [(Value.slice a_y469_sectors write_2.1.sectors.length c_y469_sectors), (Value.slice a_y469_pending write_2.1.pending.length c_y469_pending), (Value.int .i64 write_2.1.left), (Value.bool write_2.1.stopped)].toArray 25), (some b31, Obj.cells [(Value.slice a_y45 v_2.length c_y45), (Value.slice a_y46 v_3.length c_y46), (Value.int .i64 v_4), (Value.bool v_5)].toArray 25), (some b33, Obj.cells [(Value.slice a_y469_sectors write_2.1.sectors.length c_y469_sectors), (Value.slice a_y469_pending write_2.1.pending.length c_y469_pending), (Value.int .i64 write_2.1.left), (Value.bool write_2.1.stopped)].toArray 25), (some b1, Obj.cells [(Value.slice a_d_sectors d.sectors.length c_d_sectors), (Value.slice a_d_pending d.pending.length c_d_pending), (Value.int .i64 d.left), (Value.bool d.stopped)].toArray 25)] 0)
                      replace f_y469_sectors := f_y469_sectors.step (Step.drop _ _ [(some b461, Obj.cells [(Value.slice a_y469_sectors write_2.1.sectors.length c_y469_sectors), (Value.slice a_y469_pending write_2.1.pending.length c_y469_pending), (Value.int .i64 write_2.1.left), (Value.bool write_2.1.stopped)].toArray 25), (some b31, Obj.cells [(Value.slice a_y45 v_2.length c_y45), (Value.slice a_y46 v_3.length c_y46), (Value.int .i64 v_4), (Value.bool v_5)].toArray 25), (some b33, Obj.cells [(Value.slice a_y469_sectors write_2.1.sectors.length c_y469_sectors), (Value.slice a_y469_pending write_2.1.pending.length c_y469_pending), (Value.int .i64 write_2.1.left), (Value.bool write_2.1.stopped)].toArray 25), (some b1, Obj.cells [(Value.slice a_d_sectors d.sectors.length c_d_sectors), (Value.slice a_d_pending d.pending.length c_d_pending), (Value.int .i64 d.left), (Value.bool d.stopped)].toArray 25)] 0)
                      replace f_y469_pending := f_y469_pending.step (Step.drop _ _ [(some b461, Obj.cells [(Value.slice a_y469_sectors write_2.1.sectors.length c_y469_sectors), (Value.slice a_y469_pending write_2.1.pending.length c_y469_pending), (Value.int .i64 write_2.1.left), (Value.bool write_2.1.stopped)].toArray 25), (some b31, Obj.cells [(Value.slice a_y45 v_2.length c_y45), (Value.slice a_y46 v_3.length c_y46), (Value.int .i64 v_4), (Value.bool v_5)].toArray 25), (some b33, Obj.cells [(Value.slice a_y469_sectors write_2.1.sectors.length c_y469_sectors), (Value.slice a_y469_pending write_2.1.pending.length c_y469_pending), (Value.int .i64 write_2.1.left), (Value.bool write_2.1.stopped)].toArray 25), (some b1, Obj.cells [(Value.slice a_d_sectors d.sectors.length c_d_sectors), (Value.slice a_d_pending d.pending.length c_d_pending), (Value.int .i64 d.left), (Value.bool d.stopped)].toArray 25)] 0)
                      replace ch59 := ch59.trans (Step.drop _ _ [(some b461, Obj.cells [(Value.slice a_y469_sectors write_2.1.sectors.length c_y469_sectors), (Value.slice a_y469_pending write_2.1.pending.length c_y469_pending), (Value.int .i64 write_2.1.left), (Value.bool write_2.1.stopped)].toArray 25), (some b31, Obj.cells [(Value.slice a_y45 v_2.length c_y45), (Value.slice a_y46 v_3.length c_y46), (Value.int .i64 v_4), (Value.bool v_5)].toArray 25), (some b33, Obj.cells [(Value.slice a_y469_sectors write_2.1.sectors.length c_y469_sectors), (Value.slice a_y469_pending write_2.1.pending.length c_y469_pending), (Value.int .i64 write_2.1.left), (Value.bool write_2.1.stopped)].toArray 25), (some b1, Obj.cells [(Value.slice a_d_sectors d.sectors.length c_d_sectors), (Value.slice a_d_pending d.pending.length c_d_pending), (Value.int .i64 d.left), (Value.bool d.stopped)].toArray 25)] 0)
                      replace ch308 := ch308.trans (Step.drop _ _ [(some b461, Obj.cells [(Value.slice a_y469_sectors write_2.1.sectors.length c_y469_sectors), (Value.slice a_y469_pending write_2.1.pending.length c_y469_pending), (Value.int .i64 write_2.1.left), (Value.bool write_2.1.stopped)].toArray 25), (some b31, Obj.cells [(Value.slice a_y45 v_2.length c_y45), (Value.slice a_y46 v_3.length c_y46), (Value.int .i64 v_4), (Value.bool v_5)].toArray 25), (some b33, Obj.cells [(Value.slice a_y469_sectors write_2.1.sectors.length c_y469_sectors), (Value.slice a_y469_pending write_2.1.pending.length c_y469_pending), (Value.int .i64 write_2.1.left), (Value.bool write_2.1.stopped)].toArray 25), (some b1, Obj.cells [(Value.slice a_d_sectors d.sectors.length c_d_sectors), (Value.slice a_d_pending d.pending.length c_d_pending), (Value.int .i64 d.left), (Value.bool d.stopped)].toArray 25)] 0)
                      clear hs505
                      exact hK301 _ _ ⟨(IntKind.wrap .i64 (i_2 + 1)), write_2.1.sectors, write_2.1.pending, write_2.1.left, write_2.1.stopped, a_y469_sectors, c_y469_sectors, a_y469_pending, c_y469_pending, _, rfl, ⟨(by repeat (first | with_reducible exact Out.refl _ _ | refine Out.upd ?_ rfl | refine Out.updL ?_ rfl | refine Out.mix' ?_ rfl | exact Out.refl _ _)), rfl, rfl, trivial⟩, ch308, hs506, (inK_wrap .i64 _), f_y469_sectors, f_y469_pending, r_y469_left, jnE5 hsf300 hm⟩
                  ·
                    replace hm := bif_f hm hc309
                    refine Wp_exit ?_
                    refine Wp_seq ?_
                    obtain ⟨hs507, p508⟩ := hs304.sub (bs' := [(some b31, Obj.cells [(Value.slice a_y45 v_2.length c_y45), (Value.slice a_y46 v_3.length c_y46), (Value.int .i64 v_4), (Value.bool v_5)].toArray 25), (some b33, Obj.cells [(Value.slice a_y294 v_7.length c_y294), (Value.slice a_y295 v_8.length c_y295), (Value.int .i64 v_9), (Value.bool v_10)].toArray 25)]) (.cons_cons _ (.cons_cons _ (.cons _ List.Sublist.slnil)))
                    clear f_d_sectors f_d_pending f_script
                    replace f_y45 := f_y45.step p508
                    replace f_y46 := f_y46.step p508
                    replace f_y294 := f_y294.step p508
                    replace f_y295 := f_y295.step p508
                    replace ch59 := ch59.trans p508
                    replace ch308 := ch308.trans p508
                    clear p508 hs304
                    refine Wp_region ?_  -- 22 law.go:212
                    refine Rg_op rfl (op_loadA (cs := [(Value.slice a_y294 v_7.length c_y294), (Value.slice a_y295 v_8.length c_y295), (Value.int .i64 v_9), (Value.bool v_10)]) (vs := [(Value.slice a_y294 v_7.length c_y294), (Value.slice a_y295 v_8.length c_y295), (Value.int .i64 v_9), (Value.bool v_10)]) (i := 1) ty25 hs507 rfl rfl rfl rfl ?_)
                    replace hm := bd hm; obtain ⟨sync_2, hv509, hm⟩ := hm
                    refine Rg_op rfl (op_call Try.call25 (c25_disk_Sync (d := (⟨v_7, v_8, v_9, v_10⟩ : XDisk)) hs507.ltw f_y294 f_y295 r_y296 hv509) rfl ?_)
                    rintro v510 w511 ⟨hx512, h513⟩
                    have hs514 := hs507.call hx512
                    have p515 := Step.ext (O := ks [(some b31, Obj.cells [(Value.slice a_y45 v_2.length c_y45), (Value.slice a_y46 v_3.length c_y46), (Value.int .i64 v_4), (Value.bool v_5)].toArray 25), (some b33, Obj.cells [(Value.slice a_y294 v_7.length c_y294), (Value.slice a_y295 v_8.length c_y295), (Value.int .i64 v_9), (Value.bool v_10)].toArray 25)] O) hx512
                    clear hx512
                    replace f_y45 := f_y45.step p515
                    replace f_y46 := f_y46.step p515
                    replace f_y294 := f_y294.step p515
                    replace f_y295 := f_y295.step p515
                    replace ch59 := ch59.trans p515
                    replace ch308 := ch308.trans p515
                    clear p515 hs507
                    obtain ⟨v516, v517, rfl, h518, h519⟩ := h513
                    obtain ⟨_, rfl, ⟨_, _, rfl, ⟨a_y520_sectors, c_y520_sectors, rfl, f_y520_sectors⟩, ⟨_, _, rfl, ⟨a_y520_pending, c_y520_pending, rfl, f_y520_pending⟩, ⟨_, _, rfl, ⟨rfl, r_y520_left⟩, rfl⟩⟩⟩⟩ := h518
                    obtain ⟨rfl, r_y521⟩ := h519
                    refine Rg_op rfl (op_move (v := (Value.tuple [(Value.agg [(Value.slice a_y520_sectors sync_2.1.sectors.length c_y520_sectors), (Value.slice a_y520_pending sync_2.1.pending.length c_y520_pending), (Value.int .i64 sync_2.1.left), (Value.bool sync_2.1.stopped)].toArray), (Value.int .i64 sync_2.2)].toArray)) rfl ?_)
                    refine Rg_op rfl (op_extract (v := (Value.agg [(Value.slice a_y520_sectors sync_2.1.sectors.length c_y520_sectors), (Value.slice a_y520_pending sync_2.1.pending.length c_y520_pending), (Value.int .i64 sync_2.1.left), (Value.bool sync_2.1.stopped)].toArray)) rfl rfl ?_)
                    refine Rg_op rfl (op_extract (v := (Value.int .i64 sync_2.2)) rfl rfl ?_)
                    refine Rg_op_ (op_store (cs := [(Value.slice a_y294 v_7.length c_y294), (Value.slice a_y295 v_8.length c_y295), (Value.int .i64 v_9), (Value.bool v_10)]) (vs := [(Value.slice a_y520_sectors sync_2.1.sectors.length c_y520_sectors), (Value.slice a_y520_pending sync_2.1.pending.length c_y520_pending), (Value.int .i64 sync_2.1.left), (Value.bool sync_2.1.stopped)]) (cs' := [(Value.slice a_y520_sectors sync_2.1.sectors.length c_y520_sectors), (Value.slice a_y520_pending sync_2.1.pending.length c_y520_pending), (Value.int .i64 sync_2.1.left), (Value.bool sync_2.1.stopped)]) (bs' := [(some b31, Obj.cells [(Value.slice a_y45 v_2.length c_y45), (Value.slice a_y46 v_3.length c_y46), (Value.int .i64 v_4), (Value.bool v_5)].toArray 25), (some b33, Obj.cells [(Value.slice a_y520_sectors sync_2.1.sectors.length c_y520_sectors), (Value.slice a_y520_pending sync_2.1.pending.length c_y520_pending), (Value.int .i64 sync_2.1.left), (Value.bool sync_2.1.stopped)].toArray 25)]) (i := 1) ty25 hs514 rfl rfl rfl rfl rfl (le_lit rfl) rfl rfl rfl ?_)
                    intro w522 p523 hs524
                    replace f_y45 := f_y45.step p523
                    replace f_y46 := f_y46.step p523
                    replace f_y294 := f_y294.step p523
                    replace f_y295 := f_y295.step p523
                    replace f_y520_sectors := f_y520_sectors.step p523
                    replace f_y520_pending := f_y520_pending.step p523
                    replace ch59 := ch59.trans p523
                    replace ch308 := ch308.trans p523
                    clear p523 hs514
                    refine Rg_op rfl (op_assign (v := (Value.int .i64 sync_2.2)) rfl ?_)
                    refine Rg_nil ?_
                    refine Wp_seq ?_
                    clear f_y294 f_y295
                    refine Wp_region ?_  -- 23 law.go:213
                    refine Rg_op rfl (op_move (v := (Value.int .i64 e_1)) rfl ?_)
                    refine Rg_op rfl (op_move (v := (Value.int .i64 sync_2.2)) rfl ?_)
                    refine Rg_op rfl (op_eql rfl rfl ?_)
                    refine Rg_op rfl (op_move (v := (Value.bool (decide (e_1 = sync_2.2)))) rfl ?_)
                    refine Rg_case (fun hg525 => ?_) (fun hg525 => ?_)
                    ·
                      replace hm := bif_t hm hg525
                      refine Rg_opg rfl rfl rfl (op_loadA (cs := [(Value.slice a_y45 v_2.length c_y45), (Value.slice a_y46 v_3.length c_y46), (Value.int .i64 v_4), (Value.bool v_5)]) (vs := [(Value.slice a_y45 v_2.length c_y45), (Value.slice a_y46 v_3.length c_y46), (Value.int .i64 v_4), (Value.bool v_5)]) (i := 0) ty25 hs524 rfl rfl rfl rfl ?_)
                      refine Rg_opg rfl rfl rfl (op_loadA (cs := [(Value.slice a_y520_sectors sync_2.1.sectors.length c_y520_sectors), (Value.slice a_y520_pending sync_2.1.pending.length c_y520_pending), (Value.int .i64 sync_2.1.left), (Value.bool sync_2.1.stopped)]) (vs := [(Value.slice a_y520_sectors sync_2.1.sectors.length c_y520_sectors), (Value.slice a_y520_pending sync_2.1.pending.length c_y520_pending), (Value.int .i64 sync_2.1.left), (Value.bool sync_2.1.stopped)]) (i := 1) ty25 hs524 rfl rfl rfl rfl ?_)
                      replace hm := bd hm; obtain ⟨same_1, hv526, hm⟩ := hm
                      refine Rg_opg rfl rfl rfl (op_call Try.call17 (c17_overflightref44_Same (a := (⟨v_2, v_3, v_4, v_5⟩ : XDisk)) (b := sync_2.1) hs524.ltw f_y45 f_y46 r_y47 f_y520_sectors f_y520_pending r_y520_left hv526) rfl ?_)
                      rintro v527 w528 ⟨hx529, h530⟩
                      have hs531 := hs524.call hx529
                      have p532 := Step.ext (O := ks [(some b31, Obj.cells [(Value.slice a_y45 v_2.length c_y45), (Value.slice a_y46 v_3.length c_y46), (Value.int .i64 v_4), (Value.bool v_5)].toArray 25), (some b33, Obj.cells [(Value.slice a_y520_sectors sync_2.1.sectors.length c_y520_sectors), (Value.slice a_y520_pending sync_2.1.pending.length c_y520_pending), (Value.int .i64 sync_2.1.left), (Value.bool sync_2.1.stopped)].toArray 25)] O) hx529
                      clear hx529
                      replace f_y45 := f_y45.step p532
                      replace f_y46 := f_y46.step p532
                      replace f_y520_sectors := f_y520_sectors.step p532
                      replace f_y520_pending := f_y520_pending.step p532
                      replace ch59 := ch59.trans p532
                      replace ch308 := ch308.trans p532
                      clear p532 hs524
                      obtain rfl := h530
                      refine Rg_op rfl (op_pick_t (v := (Value.bool same_1)) rfl rfl ?_)
                      refine Rg_op rfl (op_assign (v := (Value.bool same_1)) rfl ?_)
                      refine Rg_nil ?_
                      refine Wp_ret ?_
                      have hz := step_all hs531
                      replace f_y45 := f_y45.step hz
                      replace f_y46 := f_y46.step hz
                      replace f_y520_sectors := f_y520_sectors.step hz
                      replace f_y520_pending := f_y520_pending.step hz
                      refine ⟨_, (show Closes [] _ _ from rfl), [(Value.bool same_1)], ⟨rfl, trivial⟩, hs531.ext, ?_⟩
                      exact Vr.eq (a := vB) (x := same_1) rfl (Option.some.inj hm)
                    ·
                      replace hm := bif_f hm hg525
                      refine Rg_opx rfl (asB_ne rfl rfl) rfl ?_
                      refine Rg_opx rfl (asB_ne rfl rfl) rfl ?_
                      refine Rg_opx rfl (asB_ne rfl rfl) rfl ?_
                      refine Rg_op rfl (op_pick_f (v := (Value.bool false)) rfl rfl ?_)
                      refine Rg_op rfl (op_assign (v := (Value.bool false)) rfl ?_)
                      refine Rg_nil ?_
                      refine Wp_ret ?_
                      have hz := step_all hs524
                      replace f_y45 := f_y45.step hz
                      replace f_y46 := f_y46.step hz
                      replace f_y520_sectors := f_y520_sectors.step hz
                      replace f_y520_pending := f_y520_pending.step hz
                      refine ⟨_, (show Closes [] _ _ from rfl), [(Value.bool false)], ⟨rfl, trivial⟩, hs524.ext, ?_⟩
                      exact Vr.eq (a := vB) (x := false) rfl (Option.some.inj hm)
            ·
              intro K64 hK64
              have ch534 := Step.refl (ks [(some b31, Obj.cells [(Value.slice a_y45 v_2.length c_y45), (Value.slice a_y46 v_3.length c_y46), (Value.int .i64 v_4), (Value.bool v_5)].toArray 25), (some b33, Obj.cells [(Value.slice a_d_sectors d.sectors.length c_d_sectors), (Value.slice a_d_pending d.pending.length c_d_pending), (Value.int .i64 d.left), (Value.bool d.stopped)].toArray 25), (some b1, Obj.cells [(Value.slice a_d_sectors d.sectors.length c_d_sectors), (Value.slice a_d_pending d.pending.length c_d_pending), (Value.int .i64 d.left), (Value.bool d.stopped)].toArray 25)] O) w54
              refine Wp_region ?_  -- 8 law.go:197
              refine Rg_op rfl (op_move (v := (Value.int .i64 i_1)) rfl ?_)
              refine Rg_op rfl (op_move (v := (Value.slice a_script script.length c_script)) rfl ?_)
              refine Rg_op rfl (op_len Try.underlying35 rfl ?_)
              refine Rg_op rfl (op_lss rfl rfl ?_)
              refine Rg_op rfl (op_move (v := (Value.bool (decide (i_1 < (script.length : Int))))) rfl ?_)
              refine Rg_case (fun hg535 => ?_) (fun hg535 => ?_)
              ·
                replace hm := bif_t hm hg535
                refine Rg_opg rfl rfl rfl (op_move (v := (Value.int .i64 e_1)) rfl ?_)
                refine Rg_opg rfl rfl rfl (op_eql rfl rfl ?_)
                refine Rg_op rfl (op_pick_t (v := (Value.bool (decide (e_1 = 0)))) rfl rfl ?_)
                refine Rg_nil ?_
                exact hK64 _ _ ⟨(decide (e_1 = 0)), _, rfl, ⟨(by repeat (first | with_reducible exact Out.refl _ _ | refine Out.upd ?_ rfl | refine Out.updL ?_ rfl | refine Out.mix' ?_ rfl | exact Out.refl _ _)), rfl, rfl, trivial⟩, ch534, hs55, hm⟩
              ·
                replace hm := bif_f hm hg535
                refine Rg_opx rfl (asB_ne rfl rfl) rfl ?_
                refine Rg_opx rfl (asB_ne rfl rfl) rfl ?_
                refine Rg_op rfl (op_pick_f (v := (Value.bool false)) rfl rfl ?_)
                refine Rg_nil ?_
                exact hK64 _ _ ⟨false, _, rfl, ⟨(by repeat (first | with_reducible exact Out.refl _ _ | refine Out.upd ?_ rfl | refine Out.updL ?_ rfl | refine Out.mix' ?_ rfl | exact Out.refl _ _)), rfl, rfl, trivial⟩, ch534, hs55, hm⟩
        ·
          intro K37 hK37
          have ch536 := Step.refl (ks [(some b1, Obj.cells [(Value.slice a_d_sectors d.sectors.length c_d_sectors), (Value.slice a_d_pending d.pending.length c_d_pending), (Value.int .i64 d.left), (Value.bool d.stopped)].toArray 25)] O) w22
          refine Wp_drawLR (g0 := []) (m := 4) (fl := []) (f := 1) (TS_inv hs23) (.inl rfl) rfl (by decide +kernel) rfl ?_  -- 5
          refine Dw_eq (Value.agg [(Value.slice a_d_sectors d.sectors.length c_d_sectors), (Value.slice a_d_pending d.pending.length c_d_pending), (Value.int .i64 d.left), (Value.bool d.stopped)].toArray) (fun ρ537 w538 g hle hi ht => ?_) ?_
          ·
            obtain ⟨-, hst, -⟩ := hle
            have hsn := (Step.nx hi).1
            refine StepOp_plain (op_loadA (cs := [(Value.slice a_d_sectors d.sectors.length c_d_sectors), (Value.slice a_d_pending d.pending.length c_d_pending), (Value.int .i64 d.left), (Value.bool d.stopped)]) (vs := [(Value.slice a_d_sectors d.sectors.length c_d_sectors), (Value.slice a_d_pending d.pending.length c_d_pending), (Value.int .i64 d.left), (Value.bool d.stopped)]) (i := 0) ty25 hsn (ht 2 rfl) rfl rfl rfl ?_)
            exact Goes.same hi rfl
          refine Dw_eq (Value.agg [(Value.slice a_d_sectors d.sectors.length c_d_sectors), (Value.slice a_d_pending d.pending.length c_d_pending), (Value.int .i64 d.left), (Value.bool d.stopped)].toArray) (fun ρ540 w541 g hle hi ht => ?_) ?_
          ·
            obtain ⟨-, hst, -⟩ := hle
            have hsn := (Step.nx hi).1
            refine StepOp_plain (op_loadA (cs := [(Value.slice a_d_sectors d.sectors.length c_d_sectors), (Value.slice a_d_pending d.pending.length c_d_pending), (Value.int .i64 d.left), (Value.bool d.stopped)]) (vs := [(Value.slice a_d_sectors d.sectors.length c_d_sectors), (Value.slice a_d_pending d.pending.length c_d_pending), (Value.int .i64 d.left), (Value.bool d.stopped)]) (i := 0) ty25 hsn (ht 2 rfl) rfl rfl rfl ?_)
            exact Goes.same hi rfl
          refine Dw_op (VN 5 (Obj.cells [(Value.slice none 0 0), (Value.slice none 0 0), (Value.int .i64 0), (Value.bool false)].toArray 25)) (VN.stab _ _) (fun ρ543 w544 g hle hi ht => ?_) ?_
          ·
            obtain ⟨-, hst, -⟩ := hle
            refine StepOp_plain (op_alloc ty25 hi ?_)
            intro b546 w547 hx550 p548 hs549; exact Goes.new hi p548 hs549 hx550
          refine Dw_op (VN 6 (Obj.cells [(Value.slice none 0 0), (Value.slice none 0 0), (Value.int .i64 0), (Value.bool false)].toArray 25)) (VN.stab _ _) (fun ρ551 w552 g hle hi ht => ?_) ?_
          ·
            obtain ⟨-, hst, -⟩ := hle
            refine StepOp_plain (op_alloc ty25 hi ?_)
            intro b554 w555 hx558 p556 hs557; exact Goes.new hi p556 hs557 hx558
          refine Dw_nilL (fun w559 g560 hl561 hi562 => ?_) (fun w559 g560 hl561 hi562 => ?_)
          ·
            obtain ⟨-, hst567, -⟩ := hl561
            rintro _ ⟨b570, rfl, h571⟩
            rintro _ ⟨b573, rfl, h574⟩
            rintro _ rfl
            rintro _ rfl
            obtain ⟨hs569, p568⟩ := Step.nx2 hi562 h574 h571 (by decide)
            have p576 : Step (ks [(some b1, Obj.cells [(Value.slice a_d_sectors d.sectors.length c_d_sectors), (Value.slice a_d_pending d.pending.length c_d_pending), (Value.int .i64 d.left), (Value.bool d.stopped)].toArray 25)] O) w22 (ks [(some b573, Obj.cells [(Value.slice none 0 0), (Value.slice none 0 0), (Value.int .i64 0), (Value.bool false)].toArray 25), (some b570, Obj.cells [(Value.slice none 0 0), (Value.slice none 0 0), (Value.int .i64 0), (Value.bool false)].toArray 25), (some b1, Obj.cells [(Value.slice a_d_sectors d.sectors.length c_d_sectors), (Value.slice a_d_pending d.pending.length c_d_pending), (Value.int .i64 d.left), (Value.bool d.stopped)].toArray 25)] O) w559 := hst567.trans p568
            replace f_d_sectors := f_d_sectors.step p576
            replace f_d_pending := f_d_pending.step p576
            replace f_script := f_script.step p576
            replace ch536 := ch536.trans p576
            clear p576 hs23
            refine Rg_op_ (op_store (cs := [(Value.slice none 0 0), (Value.slice none 0 0), (Value.int .i64 0), (Value.bool false)]) (vs := [(Value.slice a_d_sectors d.sectors.length c_d_sectors), (Value.slice a_d_pending d.pending.length c_d_pending), (Value.int .i64 d.left), (Value.bool d.stopped)]) (cs' := [(Value.slice a_d_sectors d.sectors.length c_d_sectors), (Value.slice a_d_pending d.pending.length c_d_pending), (Value.int .i64 d.left), (Value.bool d.stopped)]) (bs' := [(some b573, Obj.cells [(Value.slice a_d_sectors d.sectors.length c_d_sectors), (Value.slice a_d_pending d.pending.length c_d_pending), (Value.int .i64 d.left), (Value.bool d.stopped)].toArray 25), (some b570, Obj.cells [(Value.slice none 0 0), (Value.slice none 0 0), (Value.int .i64 0), (Value.bool false)].toArray 25), (some b1, Obj.cells [(Value.slice a_d_sectors d.sectors.length c_d_sectors), (Value.slice a_d_pending d.pending.length c_d_pending), (Value.int .i64 d.left), (Value.bool d.stopped)].toArray 25)]) (i := 0) ty25 hs569 rfl rfl rfl rfl rfl (le_lit rfl) rfl rfl rfl ?_)
            intro w577 p578 hs579
            replace f_d_sectors := f_d_sectors.step p578
            replace f_d_pending := f_d_pending.step p578
            replace f_script := f_script.step p578
            replace ch536 := ch536.trans p578
            clear p578 hs569
            refine Rg_op_ (op_store (cs := [(Value.slice none 0 0), (Value.slice none 0 0), (Value.int .i64 0), (Value.bool false)]) (vs := [(Value.slice a_d_sectors d.sectors.length c_d_sectors), (Value.slice a_d_pending d.pending.length c_d_pending), (Value.int .i64 d.left), (Value.bool d.stopped)]) (cs' := [(Value.slice a_d_sectors d.sectors.length c_d_sectors), (Value.slice a_d_pending d.pending.length c_d_pending), (Value.int .i64 d.left), (Value.bool d.stopped)]) (bs' := [(some b573, Obj.cells [(Value.slice a_d_sectors d.sectors.length c_d_sectors), (Value.slice a_d_pending d.pending.length c_d_pending), (Value.int .i64 d.left), (Value.bool d.stopped)].toArray 25), (some b570, Obj.cells [(Value.slice a_d_sectors d.sectors.length c_d_sectors), (Value.slice a_d_pending d.pending.length c_d_pending), (Value.int .i64 d.left), (Value.bool d.stopped)].toArray 25), (some b1, Obj.cells [(Value.slice a_d_sectors d.sectors.length c_d_sectors), (Value.slice a_d_pending d.pending.length c_d_pending), (Value.int .i64 d.left), (Value.bool d.stopped)].toArray 25)]) (i := 1) ty25 hs579 rfl rfl rfl rfl rfl (le_lit rfl) rfl rfl rfl ?_)
            intro w580 p581 hs582
            replace f_d_sectors := f_d_sectors.step p581
            replace f_d_pending := f_d_pending.step p581
            replace f_script := f_script.step p581
            replace ch536 := ch536.trans p581
            clear p581 hs579
            refine Rg_nil ?_
            exact hK37 _ _ ⟨b573, b570, _, rfl, ⟨(by repeat (first | with_reducible exact Out.refl _ _ | refine Out.upd ?_ rfl | refine Out.updL ?_ rfl | refine Out.mix' ?_ rfl | exact Out.refl _ _)), rfl, rfl, rfl, trivial⟩, ch536, hs582, hm⟩
          ·
            obtain ⟨-, hst587, -⟩ := hl561
            rintro _ ⟨b590, rfl, h591⟩
            rintro _ ⟨b593, rfl, h594⟩
            rintro _ rfl
            obtain ⟨hs589, p588⟩ := Step.nx2 hi562 h594 h591 (by decide)
            have p596 : Step (ks [(some b1, Obj.cells [(Value.slice a_d_sectors d.sectors.length c_d_sectors), (Value.slice a_d_pending d.pending.length c_d_pending), (Value.int .i64 d.left), (Value.bool d.stopped)].toArray 25)] O) w22 (ks [(some b593, Obj.cells [(Value.slice none 0 0), (Value.slice none 0 0), (Value.int .i64 0), (Value.bool false)].toArray 25), (some b590, Obj.cells [(Value.slice none 0 0), (Value.slice none 0 0), (Value.int .i64 0), (Value.bool false)].toArray 25), (some b1, Obj.cells [(Value.slice a_d_sectors d.sectors.length c_d_sectors), (Value.slice a_d_pending d.pending.length c_d_pending), (Value.int .i64 d.left), (Value.bool d.stopped)].toArray 25)] O) w559 := hst587.trans p588
            replace f_d_sectors := f_d_sectors.step p596
            replace f_d_pending := f_d_pending.step p596
            replace f_script := f_script.step p596
            replace ch536 := ch536.trans p596
            clear p596 hs23
            refine TailP_go rfl rfl (by decide) rfl (by decide) ?_ ?_
            ·
              refine StepOp_plain_ (op_store (cs := [(Value.slice none 0 0), (Value.slice none 0 0), (Value.int .i64 0), (Value.bool false)]) (vs := [(Value.slice a_d_sectors d.sectors.length c_d_sectors), (Value.slice a_d_pending d.pending.length c_d_pending), (Value.int .i64 d.left), (Value.bool d.stopped)]) (cs' := [(Value.slice a_d_sectors d.sectors.length c_d_sectors), (Value.slice a_d_pending d.pending.length c_d_pending), (Value.int .i64 d.left), (Value.bool d.stopped)]) (bs' := [(some b593, Obj.cells [(Value.slice a_d_sectors d.sectors.length c_d_sectors), (Value.slice a_d_pending d.pending.length c_d_pending), (Value.int .i64 d.left), (Value.bool d.stopped)].toArray 25), (some b590, Obj.cells [(Value.slice none 0 0), (Value.slice none 0 0), (Value.int .i64 0), (Value.bool false)].toArray 25), (some b1, Obj.cells [(Value.slice a_d_sectors d.sectors.length c_d_sectors), (Value.slice a_d_pending d.pending.length c_d_pending), (Value.int .i64 d.left), (Value.bool d.stopped)].toArray 25)]) (i := 0) ty25 hs589 rfl rfl rfl rfl rfl (le_lit rfl) rfl rfl rfl ?_)
              intro w597 p598 hs599
              replace f_d_sectors := f_d_sectors.step p598
              replace f_d_pending := f_d_pending.step p598
              replace f_script := f_script.step p598
              replace ch536 := ch536.trans p598
              clear p598 hs589
              refine TailP_fin rfl (by decide) (.inr (by decide +kernel)) ?_
              refine StepOp_plain (op_loadA (cs := [(Value.slice a_d_sectors d.sectors.length c_d_sectors), (Value.slice a_d_pending d.pending.length c_d_pending), (Value.int .i64 d.left), (Value.bool d.stopped)]) (vs := [(Value.slice a_d_sectors d.sectors.length c_d_sectors), (Value.slice a_d_pending d.pending.length c_d_pending), (Value.int .i64 d.left), (Value.bool d.stopped)]) (i := 2) ty25 hs599 rfl rfl rfl rfl ?_)
              refine Rg_op_ (op_store (cs := [(Value.slice none 0 0), (Value.slice none 0 0), (Value.int .i64 0), (Value.bool false)]) (vs := [(Value.slice a_d_sectors d.sectors.length c_d_sectors), (Value.slice a_d_pending d.pending.length c_d_pending), (Value.int .i64 d.left), (Value.bool d.stopped)]) (cs' := [(Value.slice a_d_sectors d.sectors.length c_d_sectors), (Value.slice a_d_pending d.pending.length c_d_pending), (Value.int .i64 d.left), (Value.bool d.stopped)]) (bs' := [(some b593, Obj.cells [(Value.slice a_d_sectors d.sectors.length c_d_sectors), (Value.slice a_d_pending d.pending.length c_d_pending), (Value.int .i64 d.left), (Value.bool d.stopped)].toArray 25), (some b590, Obj.cells [(Value.slice a_d_sectors d.sectors.length c_d_sectors), (Value.slice a_d_pending d.pending.length c_d_pending), (Value.int .i64 d.left), (Value.bool d.stopped)].toArray 25), (some b1, Obj.cells [(Value.slice a_d_sectors d.sectors.length c_d_sectors), (Value.slice a_d_pending d.pending.length c_d_pending), (Value.int .i64 d.left), (Value.bool d.stopped)].toArray 25)]) (i := 1) ty25 hs599 rfl rfl rfl rfl rfl (le_lit rfl) rfl rfl rfl ?_)
              intro w600 p601 hs602
              replace f_d_sectors := f_d_sectors.step p601
              replace f_d_pending := f_d_pending.step p601
              replace f_script := f_script.step p601
              replace ch536 := ch536.trans p601
              clear p601 hs599
              refine Rg_nil ?_
              exact hK37 _ _ ⟨b593, b590, _, rfl, ⟨(by repeat (first | with_reducible exact Out.refl _ _ | refine Out.upd ?_ rfl | refine Out.updL ?_ rfl | refine Out.mix' ?_ rfl | exact Out.refl _ _)), rfl, rfl, rfl, trivial⟩, ch536, hs602, hm⟩
            ·
              refine StepOp_plain (op_loadA (cs := [(Value.slice a_d_sectors d.sectors.length c_d_sectors), (Value.slice a_d_pending d.pending.length c_d_pending), (Value.int .i64 d.left), (Value.bool d.stopped)]) (vs := [(Value.slice a_d_sectors d.sectors.length c_d_sectors), (Value.slice a_d_pending d.pending.length c_d_pending), (Value.int .i64 d.left), (Value.bool d.stopped)]) (i := 2) ty25 hs589 rfl rfl rfl rfl ?_)
              refine Rg_op_ (op_store (cs := [(Value.slice none 0 0), (Value.slice none 0 0), (Value.int .i64 0), (Value.bool false)]) (vs := [(Value.slice a_d_sectors d.sectors.length c_d_sectors), (Value.slice a_d_pending d.pending.length c_d_pending), (Value.int .i64 d.left), (Value.bool d.stopped)]) (cs' := [(Value.slice a_d_sectors d.sectors.length c_d_sectors), (Value.slice a_d_pending d.pending.length c_d_pending), (Value.int .i64 d.left), (Value.bool d.stopped)]) (bs' := [(some b593, Obj.cells [(Value.slice a_d_sectors d.sectors.length c_d_sectors), (Value.slice a_d_pending d.pending.length c_d_pending), (Value.int .i64 d.left), (Value.bool d.stopped)].toArray 25), (some b590, Obj.cells [(Value.slice none 0 0), (Value.slice none 0 0), (Value.int .i64 0), (Value.bool false)].toArray 25), (some b1, Obj.cells [(Value.slice a_d_sectors d.sectors.length c_d_sectors), (Value.slice a_d_pending d.pending.length c_d_pending), (Value.int .i64 d.left), (Value.bool d.stopped)].toArray 25)]) (i := 0) ty25 hs589 rfl rfl rfl rfl rfl (le_lit rfl) rfl rfl rfl ?_)
              intro w603 p604 hs605
              replace f_d_sectors := f_d_sectors.step p604
              replace f_d_pending := f_d_pending.step p604
              replace f_script := f_script.step p604
              replace ch536 := ch536.trans p604
              clear p604 hs589
              refine Rg_op_ (op_store (cs := [(Value.slice none 0 0), (Value.slice none 0 0), (Value.int .i64 0), (Value.bool false)]) (vs := [(Value.slice a_d_sectors d.sectors.length c_d_sectors), (Value.slice a_d_pending d.pending.length c_d_pending), (Value.int .i64 d.left), (Value.bool d.stopped)]) (cs' := [(Value.slice a_d_sectors d.sectors.length c_d_sectors), (Value.slice a_d_pending d.pending.length c_d_pending), (Value.int .i64 d.left), (Value.bool d.stopped)]) (bs' := [(some b593, Obj.cells [(Value.slice a_d_sectors d.sectors.length c_d_sectors), (Value.slice a_d_pending d.pending.length c_d_pending), (Value.int .i64 d.left), (Value.bool d.stopped)].toArray 25), (some b590, Obj.cells [(Value.slice a_d_sectors d.sectors.length c_d_sectors), (Value.slice a_d_pending d.pending.length c_d_pending), (Value.int .i64 d.left), (Value.bool d.stopped)].toArray 25), (some b1, Obj.cells [(Value.slice a_d_sectors d.sectors.length c_d_sectors), (Value.slice a_d_pending d.pending.length c_d_pending), (Value.int .i64 d.left), (Value.bool d.stopped)].toArray 25)]) (i := 1) ty25 hs605 rfl rfl rfl rfl rfl (le_lit rfl) rfl rfl rfl ?_)
              intro w606 p607 hs608
              replace f_d_sectors := f_d_sectors.step p607
              replace f_d_pending := f_d_pending.step p607
              replace f_script := f_script.step p607
              replace ch536 := ch536.trans p607
              clear p607 hs605
              refine Rg_nil ?_
              exact hK37 _ _ ⟨b593, b590, _, rfl, ⟨(by repeat (first | with_reducible exact Out.refl _ _ | refine Out.upd ?_ rfl | refine Out.updL ?_ rfl | refine Out.mix' ?_ rfl | exact Out.refl _ _)), rfl, rfl, rfl, trivial⟩, ch536, hs608, hm⟩
    ·
      intro K21 hK21
      have ch609 := Step.refl (ks [(some b1, Obj.cells [(Value.slice a_d_sectors d.sectors.length c_d_sectors), (Value.slice a_d_pending d.pending.length c_d_pending), (Value.int .i64 d.left), (Value.bool d.stopped)].toArray 25)] O) w8
      refine Wp_region ?_  -- 3 law.go:192
      refine Rg_op rfl (op_loadA (cs := [(Value.slice a_d_sectors d.sectors.length c_d_sectors), (Value.slice a_d_pending d.pending.length c_d_pending), (Value.int .i64 d.left), (Value.bool d.stopped)]) (vs := [(Value.slice a_d_sectors d.sectors.length c_d_sectors), (Value.slice a_d_pending d.pending.length c_d_pending), (Value.int .i64 d.left), (Value.bool d.stopped)]) (i := 0) ty25 hs11 rfl rfl rfl rfl ?_)
      replace hm := bd hm; obtain ⟨few_1, hv610, hm⟩ := hm
      refine Rg_op rfl (op_call Try.call14 (c14_overflightref44_Few (d := d) hs11.ltw f_d_sectors f_d_pending r_d_left hv610) rfl ?_)
      rintro v611 w612 ⟨hx613, h614⟩
      have hs615 := hs11.call hx613
      have p616 := Step.ext (O := ks [(some b1, Obj.cells [(Value.slice a_d_sectors d.sectors.length c_d_sectors), (Value.slice a_d_pending d.pending.length c_d_pending), (Value.int .i64 d.left), (Value.bool d.stopped)].toArray 25)] O) hx613
      clear hx613
      replace f_d_sectors := f_d_sectors.step p616
      replace f_d_pending := f_d_pending.step p616
      replace f_script := f_script.step p616
      replace ch609 := ch609.trans p616
      clear p616 hs11
      obtain rfl := h614
      refine Rg_op rfl (op_not rfl ?_)
      refine Rg_op rfl (op_move (v := (Value.bool (!few_1))) rfl ?_)
      refine Rg_case (fun hg618 => ?_) (fun hg618 => ?_)
      ·
        replace hm := bif_t hm hg618
        refine Rg_opx rfl (asB_ne rfl rfl) rfl ?_
        refine Rg_opx rfl (asB_ne rfl rfl) rfl ?_
        refine Rg_opx rfl (asB_ne rfl rfl) rfl ?_
        refine Rg_op rfl (op_pick_t (v := (Value.bool true)) rfl rfl ?_)
        refine Rg_op rfl (op_move (v := (Value.bool true)) rfl ?_)
        refine Rg_opx rfl (asB_ne rfl rfl) rfl ?_
        refine Rg_opx rfl (asB_ne rfl rfl) rfl ?_
        refine Rg_opx rfl (asB_ne rfl rfl) rfl ?_
        refine Rg_opx rfl (asB_ne rfl rfl) rfl ?_
        refine Rg_op rfl (op_pick_t (v := (Value.bool true)) rfl rfl ?_)
        refine Rg_op rfl (op_move (v := (Value.bool true)) rfl ?_)
        refine Rg_opx rfl (asB_ne rfl rfl) rfl ?_
        refine Rg_opx rfl (asB_ne rfl rfl) rfl ?_
        refine Rg_opx rfl (asB_ne rfl rfl) rfl ?_
        refine Rg_opx rfl (asB_ne rfl rfl) rfl ?_
        refine Rg_op rfl (op_pick_t (v := (Value.bool true)) rfl rfl ?_)
        refine Rg_op rfl (op_move (v := (Value.bool true)) rfl ?_)
        refine Rg_opx rfl (asB_ne rfl rfl) rfl ?_
        refine Rg_opx rfl (asB_ne rfl rfl) rfl ?_
        refine Rg_opx rfl (asB_ne rfl rfl) rfl ?_
        refine Rg_op rfl (op_pick_t (v := (Value.bool true)) rfl rfl ?_)
        refine Rg_op rfl (op_move (v := (Value.bool true)) rfl ?_)
        refine Rg_opx rfl (asB_ne rfl rfl) rfl ?_
        refine Rg_opx rfl (asB_ne rfl rfl) rfl ?_
        refine Rg_op rfl (op_pick_t (v := (Value.bool true)) rfl rfl ?_)
        refine Rg_nil ?_
        exact hK21 _ _ ⟨true, _, rfl, ⟨(by repeat (first | with_reducible exact Out.refl _ _ | refine Out.upd ?_ rfl | refine Out.updL ?_ rfl | refine Out.mix' ?_ rfl | exact Out.refl _ _)), rfl, rfl, trivial⟩, ch609, hs615, hm⟩
      ·
        replace hm := bif_f hm hg618
        refine Rg_opg rfl rfl rfl (op_move (v := (Value.slice a_script script.length c_script)) rfl ?_)
        refine Rg_opg rfl rfl rfl (op_len Try.underlying35 rfl ?_)
        refine Rg_opg rfl rfl rfl (op_gtr rfl rfl ?_)
        refine Rg_op rfl (op_pick_f (v := (Value.bool (decide (20 < (script.length : Int))))) rfl rfl ?_)
        refine Rg_op rfl (op_move (v := (Value.bool (decide (20 < (script.length : Int))))) rfl ?_)
        refine Rg_case (fun hg619 => ?_) (fun hg619 => ?_)
        ·
          replace hm := bif_t hm hg619
          refine Rg_opx rfl (asB_ne rfl rfl) rfl ?_
          refine Rg_opx rfl (asB_ne rfl rfl) rfl ?_
          refine Rg_opx rfl (asB_ne rfl rfl) rfl ?_
          refine Rg_opx rfl (asB_ne rfl rfl) rfl ?_
          refine Rg_op rfl (op_pick_t (v := (Value.bool true)) rfl rfl ?_)
          refine Rg_op rfl (op_move (v := (Value.bool true)) rfl ?_)
          refine Rg_opx rfl (asB_ne rfl rfl) rfl ?_
          refine Rg_opx rfl (asB_ne rfl rfl) rfl ?_
          refine Rg_opx rfl (asB_ne rfl rfl) rfl ?_
          refine Rg_opx rfl (asB_ne rfl rfl) rfl ?_
          refine Rg_op rfl (op_pick_t (v := (Value.bool true)) rfl rfl ?_)
          refine Rg_op rfl (op_move (v := (Value.bool true)) rfl ?_)
          refine Rg_opx rfl (asB_ne rfl rfl) rfl ?_
          refine Rg_opx rfl (asB_ne rfl rfl) rfl ?_
          refine Rg_opx rfl (asB_ne rfl rfl) rfl ?_
          refine Rg_op rfl (op_pick_t (v := (Value.bool true)) rfl rfl ?_)
          refine Rg_op rfl (op_move (v := (Value.bool true)) rfl ?_)
          refine Rg_opx rfl (asB_ne rfl rfl) rfl ?_
          refine Rg_opx rfl (asB_ne rfl rfl) rfl ?_
          refine Rg_op rfl (op_pick_t (v := (Value.bool true)) rfl rfl ?_)
          refine Rg_nil ?_
          exact hK21 _ _ ⟨true, _, rfl, ⟨(by repeat (first | with_reducible exact Out.refl _ _ | refine Out.upd ?_ rfl | refine Out.updL ?_ rfl | refine Out.mix' ?_ rfl | exact Out.refl _ _)), rfl, rfl, trivial⟩, ch609, hs615, hm⟩
        ·
          replace hm := bif_f hm hg619
          refine Rg_opg rfl rfl rfl (op_fieldAddr ty25 rfl ty23 (by decide) rfl (rfl : _ = (⟨_, 1, none⟩ : Addr)) ?_)
          refine Rg_opg rfl rfl rfl (op_load (cs := [(Value.slice a_d_sectors d.sectors.length c_d_sectors), (Value.slice a_d_pending d.pending.length c_d_pending), (Value.int .i64 d.left), (Value.bool d.stopped)]) (i := 0) ty23 hs615 rfl rfl rfl ?_)
          refine Rg_opg rfl rfl rfl (op_len Try.underlying23 rfl ?_)
          refine Rg_opg rfl rfl rfl (op_gtr rfl rfl ?_)
          refine Rg_op rfl (op_pick_f (v := (Value.bool (decide (0 < (d.pending.length : Int))))) rfl rfl ?_)
          refine Rg_op rfl (op_move (v := (Value.bool (decide (0 < (d.pending.length : Int))))) rfl ?_)
          refine Rg_case (fun hg620 => ?_) (fun hg620 => ?_)
          ·
            replace hm := bif_t hm hg620
            refine Rg_opx rfl (asB_ne rfl rfl) rfl ?_
            refine Rg_opx rfl (asB_ne rfl rfl) rfl ?_
            refine Rg_opx rfl (asB_ne rfl rfl) rfl ?_
            refine Rg_opx rfl (asB_ne rfl rfl) rfl ?_
            refine Rg_op rfl (op_pick_t (v := (Value.bool true)) rfl rfl ?_)
            refine Rg_op rfl (op_move (v := (Value.bool true)) rfl ?_)
            refine Rg_opx rfl (asB_ne rfl rfl) rfl ?_
            refine Rg_opx rfl (asB_ne rfl rfl) rfl ?_
            refine Rg_opx rfl (asB_ne rfl rfl) rfl ?_
            refine Rg_op rfl (op_pick_t (v := (Value.bool true)) rfl rfl ?_)
            refine Rg_op rfl (op_move (v := (Value.bool true)) rfl ?_)
            refine Rg_opx rfl (asB_ne rfl rfl) rfl ?_
            refine Rg_opx rfl (asB_ne rfl rfl) rfl ?_
            refine Rg_op rfl (op_pick_t (v := (Value.bool true)) rfl rfl ?_)
            refine Rg_nil ?_
            exact hK21 _ _ ⟨true, _, rfl, ⟨(by repeat (first | with_reducible exact Out.refl _ _ | refine Out.upd ?_ rfl | refine Out.updL ?_ rfl | refine Out.mix' ?_ rfl | exact Out.refl _ _)), rfl, rfl, trivial⟩, ch609, hs615, hm⟩
          ·
            replace hm := bif_f hm hg620
            refine Rg_opg rfl rfl rfl (op_fieldAddr ty25 rfl ty22 (by decide) rfl (rfl : _ = (⟨_, 0, none⟩ : Addr)) ?_)
            refine Rg_opg rfl rfl rfl (op_load (cs := [(Value.slice a_d_sectors d.sectors.length c_d_sectors), (Value.slice a_d_pending d.pending.length c_d_pending), (Value.int .i64 d.left), (Value.bool d.stopped)]) (i := 0) ty22 hs615 rfl rfl rfl ?_)
            refine Rg_opg rfl rfl rfl (op_len Try.underlying22 rfl ?_)
            refine Rg_opg rfl rfl rfl (op_eql rfl rfl ?_)
            refine Rg_op rfl (op_pick_f (v := (Value.bool (decide ((d.sectors.length : Int) = 0)))) rfl rfl ?_)
            refine Rg_op rfl (op_move (v := (Value.bool (decide ((d.sectors.length : Int) = 0)))) rfl ?_)
            refine Rg_case (fun hg621 => ?_) (fun hg621 => ?_)
            ·
              replace hm := bif_t hm hg621
              refine Rg_opx rfl (asB_ne rfl rfl) rfl ?_
              refine Rg_opx rfl (asB_ne rfl rfl) rfl ?_
              refine Rg_opx rfl (asB_ne rfl rfl) rfl ?_
              refine Rg_op rfl (op_pick_t (v := (Value.bool true)) rfl rfl ?_)
              refine Rg_op rfl (op_move (v := (Value.bool true)) rfl ?_)
              refine Rg_opx rfl (asB_ne rfl rfl) rfl ?_
              refine Rg_opx rfl (asB_ne rfl rfl) rfl ?_
              refine Rg_op rfl (op_pick_t (v := (Value.bool true)) rfl rfl ?_)
              refine Rg_nil ?_
              exact hK21 _ _ ⟨true, _, rfl, ⟨(by repeat (first | with_reducible exact Out.refl _ _ | refine Out.upd ?_ rfl | refine Out.updL ?_ rfl | refine Out.mix' ?_ rfl | exact Out.refl _ _)), rfl, rfl, trivial⟩, ch609, hs615, hm⟩
            ·
              replace hm := bif_f hm hg621
              refine Rg_opg rfl rfl rfl (op_loadA (cs := [(Value.slice a_d_sectors d.sectors.length c_d_sectors), (Value.slice a_d_pending d.pending.length c_d_pending), (Value.int .i64 d.left), (Value.bool d.stopped)]) (vs := [(Value.slice a_d_sectors d.sectors.length c_d_sectors), (Value.slice a_d_pending d.pending.length c_d_pending), (Value.int .i64 d.left), (Value.bool d.stopped)]) (i := 0) ty25 hs615 rfl rfl rfl rfl ?_)
              replace hm := bd hm; obtain ⟨check_1, hv622, hm⟩ := hm
              refine Rg_opg rfl rfl rfl (op_call Try.call18 (c18_disk_Check (d := d) hs615.ltw f_d_sectors f_d_pending r_d_left hv622) rfl ?_)
              rintro v623 w624 ⟨hx625, h626⟩
              have hs627 := hs615.call hx625
              have p628 := Step.ext (O := ks [(some b1, Obj.cells [(Value.slice a_d_sectors d.sectors.length c_d_sectors), (Value.slice a_d_pending d.pending.length c_d_pending), (Value.int .i64 d.left), (Value.bool d.stopped)].toArray 25)] O) hx625
              clear hx625
              replace f_d_sectors := f_d_sectors.step p628
              replace f_d_pending := f_d_pending.step p628
              replace f_script := f_script.step p628
              replace ch609 := ch609.trans p628
              clear p628 hs615
              obtain ⟨rfl, r_y629⟩ := h626
              refine Rg_opg rfl rfl rfl (op_neq rfl rfl ?_)
              refine Rg_op rfl (op_pick_f (v := (Value.bool (decide (check_1 ≠ 0)))) rfl rfl ?_)
              refine Rg_op rfl (op_move (v := (Value.bool (decide (check_1 ≠ 0)))) rfl ?_)
              refine Rg_case (fun hg630 => ?_) (fun hg630 => ?_)
              ·
                replace hm := bif_t hm hg630
                refine Rg_opx rfl (asB_ne rfl rfl) rfl ?_
                refine Rg_opx rfl (asB_ne rfl rfl) rfl ?_
                refine Rg_op rfl (op_pick_t (v := (Value.bool true)) rfl rfl ?_)
                refine Rg_nil ?_
                exact hK21 _ _ ⟨true, _, rfl, ⟨(by repeat (first | with_reducible exact Out.refl _ _ | refine Out.upd ?_ rfl | refine Out.updL ?_ rfl | refine Out.mix' ?_ rfl | exact Out.refl _ _)), rfl, rfl, trivial⟩, ch609, hs627, hm⟩
              ·
                replace hm := bif_f hm hg630
                refine Rg_opg rfl rfl rfl (op_fieldAddr ty25 rfl ty4 (by decide) rfl (rfl : _ = (⟨_, 3, none⟩ : Addr)) ?_)
                refine Rg_opg rfl rfl rfl (op_load (cs := [(Value.slice a_d_sectors d.sectors.length c_d_sectors), (Value.slice a_d_pending d.pending.length c_d_pending), (Value.int .i64 d.left), (Value.bool d.stopped)]) (i := 0) ty4 hs627 rfl rfl rfl ?_)
                refine Rg_op rfl (op_pick_f (v := (Value.bool d.stopped)) rfl rfl ?_)
                refine Rg_nil ?_
                exact hK21 _ _ ⟨d.stopped, _, rfl, ⟨(by repeat (first | with_reducible exact Out.refl _ _ | refine Out.upd ?_ rfl | refine Out.updL ?_ rfl | refine Out.mix' ?_ rfl | exact Out.refl _ _)), rfl, rfl, trivial⟩, ch609, hs627, hm⟩

end Go.Fx


/- What the models of functions compute: loops over lists, checks, meetings. No program in sight. -/
set_option linter.unusedSimpArgs false
set_option linter.unusedVariables false
namespace Go.Fx
open Go Go.RowKit

section
variable {R α σ : Type}
@[simp] theorem jn_eq {κ : Type _} (k : κ) (f : κ → Option R) : jn k f = f k := rfl
theorem ck_eq {c : Prop} [Decidable c] {m : Option R} (h : c) : ck c m = m := if_pos h
@[simp] theorem ck_True {m : Option R} : ck True m = m := if_pos trivial
theorem wrapN {i : Nat} (h : i < 9223372036854775808) : IntKind.i64.wrap (i : Int) = (i : Int) := wrap_i64 (by omega) (by omega)
theorem wrapS {i : Nat} (h : i + 1 < 9223372036854775808) : IntKind.i64.wrap ((i : Int) + 1) = (i : Int) + 1 := wrap_i64 (by omega) (by omega)
theorem wrapA {i j : Nat} (h : i + j < 9223372036854775808) : IntKind.i64.wrap ((i : Int) + (j : Int)) = ((i + j : Nat) : Int) := (wrap_i64 (by omega) (by omega)).trans (by omega)
theorem wrapP {i : Nat} (h : i < 9223372036854775808) : IntKind.i64.wrap (((i + 1 : Nat) : Int) - 1) = (i : Int) := (wrap_i64 (by omega) (by omega)).trans (by omega)

/-- a loop that goes up an index over a list: L fuel index state -/
theorem up_list {L : Nat → Int → σ → Option R} (I : Nat → σ → Prop) (F : Nat → List α → σ → Option R) (l : List α) (hl : l.length < 9223372036854775807)
    (hE : ∀ n s, I l.length s → L (n + 1) (l.length : Nat) s = F l.length [] s)
    (hS : ∀ n (i : Nat) s x t, i < l.length → l[i]? = some x → IntKind.i64.wrap ((i : Int) + 1) = (i : Int) + 1 → I i s →
      (∀ s, I (i + 1) s → L n ((i : Int) + 1) s = F (i + 1) t s) → L (n + 1) (i : Int) s = F i (x :: t) s) :
    ∀ (fuel : Nat) s, l.length < fuel → I 0 s → L fuel 0 s = F 0 l s := by
  have main : ∀ (t : List α) (i fuel : Nat) s, l.drop i = t → i ≤ l.length → l.length - i < fuel → I i s → L fuel (i : Int) s = F i t s := by
    intro t
    induction t with
    | nil =>
      intro i fuel s hd hi hf hI
      have : i = l.length := by have := congrArg List.length hd; simp at this; omega
      subst this
      obtain ⟨n, rfl⟩ : ∃ n, fuel = n + 1 := ⟨fuel - 1, by omega⟩
      exact hE n s hI
    | cons x t ih =>
      intro i fuel s hd hi hf hI
      have hlt : i < l.length := by have := congrArg List.length hd; simp at this; omega
      obtain ⟨n, rfl⟩ : ∃ n, fuel = n + 1 := ⟨fuel - 1, by omega⟩
      have hx : l[i]? = some x := by rw [← List.head?_drop, hd]; rfl
      refine hS n i s x t hlt hx (wrapS (by omega)) hI fun s' hI' => (ih (i + 1) n s' ?_ (by omega) (by omega) hI')
      rw [← List.drop_drop, hd]; rfl
  intro fuel s hf hI
  exact main l 0 fuel s rfl (by omega) (by omega) hI

theorem getD_of {l : List α} {i : Nat} {x d : α} (h : l[i]? = some x) : l.getD i d = x := by simp [List.getD, h]

/-- a loop that goes up an index over a list, no state -/
theorem up_list0 {B : (Int → Option R) → Int → Option R} (F : List α → Option R) (l : List α) (hl : l.length < 9223372036854775807)
    (hE : ∀ sf, B sf (l.length : Nat) = F [])
    (hS : ∀ sf (i : Nat) x t, i < l.length → l[i]? = some x → IntKind.i64.wrap ((i : Int) + 1) = (i : Int) + 1 →
      sf ((i : Int) + 1) = F t → B sf (i : Int) = F (x :: t))
    {fuel : Nat} (hf : l.length < fuel) : loop1 B fuel 0 = F l := by
  refine up_list (L := fun n i (_ : Unit) => loop1 B n i) (fun _ _ => True) (fun _ t _ => F t) l hl ?_ ?_ fuel () hf trivial
  · intro n _ _; show loop1 B (n + 1) _ = _; rw [loop1_succ]; exact hE _
  · intro n i _ x t h1 h2 h3 _ ih; show loop1 B (n + 1) _ = _; rw [loop1_succ]; exact hS _ i x t h1 h2 h3 (ih () trivial)
/-- index first, then a state -/
theorem up_listA {B : (Int → σ → Option R) → Int → σ → Option R} (I : Nat → σ → Prop) (F : Nat → List α → σ → Option R) (l : List α) (hl : l.length < 9223372036854775807)
    (hE : ∀ sf s, I l.length s → B sf (l.length : Nat) s = F l.length [] s)
    (hS : ∀ sf (i : Nat) s x t, i < l.length → l[i]? = some x → IntKind.i64.wrap ((i : Int) + 1) = (i : Int) + 1 → I i s →
      (∀ s, I (i + 1) s → sf ((i : Int) + 1) s = F (i + 1) t s) → B sf (i : Int) s = F i (x :: t) s)
    {fuel : Nat} {s : σ} (hf : l.length < fuel) (hI : I 0 s) : loop2 B fuel 0 s = F 0 l s := by
  refine up_list (L := fun n i s => loop2 B n i s) I F l hl ?_ ?_ fuel s hf hI
  · intro n s h; show loop2 B (n + 1) _ _ = _; rw [loop2_succ]; exact hE _ _ h
  · intro n i s x t h1 h2 h3 h4 ih; show loop2 B (n + 1) _ _ = _; rw [loop2_succ]; exact hS _ i s x t h1 h2 h3 h4 ih
/-- a state first, then the index -/
theorem up_listB {B : (σ → Int → Option R) → σ → Int → Option R} (I : Nat → σ → Prop) (F : Nat → List α → σ → Option R) (l : List α) (hl : l.length < 9223372036854775807)
    (hE : ∀ sf s, I l.length s → B sf s (l.length : Nat) = F l.length [] s)
    (hS : ∀ sf (i : Nat) s x t, i < l.length → l[i]? = some x → IntKind.i64.wrap ((i : Int) + 1) = (i : Int) + 1 → I i s →
      (∀ s, I (i + 1) s → sf s ((i : Int) + 1) = F (i + 1) t s) → B sf s (i : Int) = F i (x :: t) s)
    {fuel : Nat} {s : σ} (hf : l.length < fuel) (hI : I 0 s) : loop2 B fuel s 0 = F 0 l s := by
  refine up_list (L := fun n i s => loop2 B n s i) I F l hl ?_ ?_ fuel s hf hI
  · intro n s h; show loop2 B (n + 1) _ _ = _; rw [loop2_succ]; exact hE _ _ h
  · intro n i s x t h1 h2 h3 h4 ih; show loop2 B (n + 1) _ _ = _; rw [loop2_succ]; exact hS _ i s x t h1 h2 h3 h4 ih

/-- the same, where the answer needs the index -/
theorem up_listI {B : (Int → Option R) → Int → Option R} (F : Nat → List α → Option R) (l : List α) (hl : l.length < 9223372036854775807)
    (hE : ∀ sf, B sf (l.length : Nat) = F l.length [])
    (hS : ∀ sf (i : Nat) x t, i < l.length → l[i]? = some x → IntKind.i64.wrap ((i : Int) + 1) = (i : Int) + 1 →
      sf ((i : Int) + 1) = F (i + 1) t → B sf (i : Int) = F i (x :: t))
    {fuel : Nat} (hf : l.length < fuel) : loop1 B fuel 0 = F 0 l := by
  refine up_list (L := fun n i (_ : Unit) => loop1 B n i) (fun _ _ => True) (fun i t _ => F i t) l hl ?_ ?_ fuel () hf trivial
  · intro n _ _; show loop1 B (n + 1) _ = _; rw [loop1_succ]; exact hE _
  · intro n i _ x t h1 h2 h3 _ ih; show loop1 B (n + 1) _ = _; rw [loop1_succ]; exact hS _ i x t h1 h2 h3 (ih () trivial)
end
end Go.Fx


set_option linter.unusedVariables false
set_option linter.unusedSimpArgs false
set_option maxRecDepth 100000
set_option maxHeartbeats 0
namespace Go.Fx
open Go Go.RowKit Go.Proofs
def m19_overflightref44_Check_B1 (d : XDisk) (sf41 : Int → Option Int) (i_2 : Int) : Option Int :=
  bif (decide (i_2 < (d.pending.length : Int))) then
    ck ((0 : Int) ≤ i_2 ∧ i_2 < (d.pending.length : Int)) <|
    jn (fun (v_2 : Bool) =>
      bif v_2 then
        some 440
      else
        sf41 (IntKind.wrap .i64 (i_2 + 1)))
    (fun k68 =>
      bif (decide (((d.pending.getD i_2.toNat default).at_) < 0)) then
        k68 true
      else
        bif (decide ((d.sectors.length : Int) ≤ ((d.pending.getD i_2.toNat default).at_))) then
          k68 true
        else
          k68 (decide ((((d.pending.getD i_2.toNat default).data).length : Int) ≠ 128)))
  else
    some 0

def m19_overflightref44_Check_B0 (d : XDisk) (sf21 : Int → Option Int) (i_1 : Int) : Option Int :=
  bif (decide (i_1 < (d.sectors.length : Int))) then
    ck ((0 : Int) ≤ i_1 ∧ i_1 < (d.sectors.length : Int)) <|
    bif (decide (((d.sectors.getD i_1.toNat default).length : Int) ≠ 128)) then
      some 440
    else
      sf21 (IntKind.wrap .i64 (i_1 + 1))
  else
    loop1 (m19_overflightref44_Check_B1 d) (((d.pending.length : Int) - 0).toNat + 1) 0

def m19_overflightref44_Check (d : XDisk) : Option Int :=
  jn (fun (v_1 : Bool) =>
    bif v_1 then
      some 440
    else
      loop1 (m19_overflightref44_Check_B0 d) (((d.sectors.length : Int) - 0).toNat + 1) 0)
  (fun k8 =>
    bif (decide ((d.sectors.length : Int) < 1)) then
      k8 true
    else
      bif (decide (4096 < (d.sectors.length : Int))) then
        k8 true
      else
        bif (decide (4096 < (d.pending.length : Int))) then
          k8 true
        else
          bif (decide (d.left < (-1))) then
            k8 true
          else
            k8 (decide (65536 < d.left)))

theorem c19_overflightref44_Check {w : World} {O : List Nat} {d : XDisk} {a_d_sectors : Option Addr} {c_d_sectors : Nat} {a_d_pending : Option Addr} {c_d_pending : Nat} (hO : ∀ k ∈ O, k < w.heap.size) (f_d_sectors : SlR (rSl rU8) w O a_d_sectors c_d_sectors d.sectors) (f_d_pending : SlR rXWrite w O a_d_pending c_d_pending d.pending) (r_d_left : InK .i64 d.left) {x : Int} (hm : m19_overflightref44_Check d = some x) :
    Ok Try.prog 19 [(Value.agg [(Value.slice a_d_sectors d.sectors.length c_d_sectors), (Value.slice a_d_pending d.pending.length c_d_pending), (Value.int .i64 d.left), (Value.bool d.stopped)].toArray)] w O (vI .i64) x := by
  unfold m19_overflightref44_Check at hm
  refine Fn_of_Wp (n := 71) (xs := [.tmp 2]) Try.func19 rfl Try.ntmps19 Try.results19 rfl ?_
  have hs := St.start hO
  refine Wp_seq ?_
  refine Wp_region ?_  -- 0 ref.go:7
  refine Rg_op rfl (op_box (cs := [(Value.slice a_d_sectors d.sectors.length c_d_sectors), (Value.slice a_d_pending d.pending.length c_d_pending), (Value.int .i64 d.left), (Value.bool d.stopped)]) hs rfl rfl ?_)
  intro b1 w2 _ p3 hs4
  replace f_d_sectors := f_d_sectors.step p3
  replace f_d_pending := f_d_pending.step p3
  clear p3
  refine Rg_op rfl (op_assign (v := (Value.int .i64 0)) rfl ?_)
  refine Rg_nil ?_
  refine Wp_seq ?_
  refine Wp_region ?_  -- 1 ref.go:8
  refine Rg_op rfl (op_fieldAddr ty25 rfl ty22 (by decide) rfl (rfl : _ = (⟨_, 0, none⟩ : Addr)) ?_)
  refine Rg_op rfl (op_load (cs := [(Value.slice a_d_sectors d.sectors.length c_d_sectors), (Value.slice a_d_pending d.pending.length c_d_pending), (Value.int .i64 d.left), (Value.bool d.stopped)]) (i := 0) ty22 hs4 rfl rfl rfl ?_)
  refine Rg_op rfl (op_len Try.underlying22 rfl ?_)
  refine Rg_op rfl (op_assign (v := (Value.int .i64 (d.sectors.length : Int))) rfl ?_)
  refine Rg_nil ?_
  refine Wp_seq ?_
  refine Wp_reset [] [(1, (Value.pointer (some ⟨b1, 0, none⟩))), (3, (Value.int .i64 (d.sectors.length : Int)))] rfl ⟨rfl, rfl, trivial⟩ fun ξ6 => ?_
  replace hm := jn_elim hm; obtain ⟨k8, hk9, hm⟩ := hm
  refine Wp_seqJ [10, 11, 12, 13, 14, 15, 16, 17, 18, 19, 20, 21, 22, 23, 24, 25, 26, 27, 28, 29, 30, 31] (fun fr w' => ∃ (v_1 : Bool) (Ebs : Ents), Ebs = [(some b1, Obj.cells [(Value.slice a_d_sectors d.sectors.length c_d_sectors), (Value.slice a_d_pending d.pending.length c_d_pending), (Value.int .i64 d.left), (Value.bool d.stopped)].toArray 25)] ∧ fr [] [(31, (Value.bool v_1))] ∧ Step (ks [(some b1, Obj.cells [(Value.slice a_d_sectors d.sectors.length c_d_sectors), (Value.slice a_d_pending d.pending.length c_d_pending), (Value.int .i64 d.left), (Value.bool d.stopped)].toArray 25)] O) w2 (ks Ebs O) w' ∧ St ⟨w, [], []⟩ O w' Ebs ∧ k8 v_1 = some x) ?_ ?_
  ·
    rintro ρ15 w11 ⟨v_1, Ebs, hEbs, hfr14, hst13, hs12, hm⟩
    replace hm := jnE1 hk9 hm
    subst hEbs; rw [hfr14.eq]; clear hfr14
    replace f_d_sectors := f_d_sectors.step hst13
    replace f_d_pending := f_d_pending.step hst13
    clear hst13 hs4
    refine Wp_cond rfl (fun hc16 => ?_) (fun hc16 => ?_)
    ·
      replace hm := bif_t hm hc16
      refine Wp_seq ?_
      obtain ⟨hs17, p18⟩ := hs12.sub (bs' := []) (.cons _ List.Sublist.slnil)
      clear f_d_sectors f_d_pending
      clear p18 hs12
      refine Wp_region ?_  -- 3 ref.go:10
      refine Rg_op rfl (op_assign (v := (Value.int .i64 440)) rfl ?_)
      refine Rg_nil ?_
      refine Wp_ret ?_
      have hz := step_all hs17
      refine ⟨_, (show Closes [] _ _ from rfl), [(Value.int .i64 440)], ⟨rfl, trivial⟩, hs17.ext, ?_⟩
      exact Vr.eq (a := (vI .i64)) (x := 440) ⟨rfl, (show InK .i64 440 from by decide)⟩ (Option.some.inj hm)
    ·
      replace hm := bif_f hm hc16
      refine Wp_skip ?_
      refine Wp_seq ?_
      refine Wp_seq ?_
      refine Wp_region ?_  -- 4 ref.go:12
      refine Rg_op rfl (op_assign (v := (Value.int .i64 0)) rfl ?_)
      refine Rg_nil ?_
      refine Wp_block ?_
      refine Wp_reset [] [(1, (Value.pointer (some ⟨b1, 0, none⟩))), (3, (Value.int .i64 (d.sectors.length : Int))), (4, (Value.int .i64 0))] rfl ⟨rfl, rfl, rfl, trivial⟩ fun ξ20 => ?_
      refine Wp_loopM [2, 4, 32, 33, 34, 35, 36, 37, 38, 39, 40, 41, 42, 43] (fun m fr w' => ∃ (i_1 : Int) (Ebs : Ents), Ebs = [(some b1, Obj.cells [(Value.slice a_d_sectors d.sectors.length c_d_sectors), (Value.slice a_d_pending d.pending.length c_d_pending), (Value.int .i64 d.left), (Value.bool d.stopped)].toArray 25)] ∧ fr [] [(4, (Value.int .i64 i_1))] ∧ Step (ks [(some b1, Obj.cells [(Value.slice a_d_sectors d.sectors.length c_d_sectors), (Value.slice a_d_pending d.pending.length c_d_pending), (Value.int .i64 d.left), (Value.bool d.stopped)].toArray 25)] O) w11 (ks Ebs O) w' ∧ St ⟨w, [], []⟩ O w' Ebs ∧ InK .i64 i_1 ∧ loop1 (m19_overflightref44_Check_B0 d) m i_1 = some x) (((d.sectors.length : Int) - 0).toNat + 1) ⟨0, _, rfl, ⟨Out.refl _ _, rfl, rfl, trivial⟩, Step.refl _ _, hs12, (show InK .i64 0 from by decide), hm⟩ ?_ ?_
      · rintro _ _ ⟨_, _, _, _, _, _, _, hm⟩; exact loop1_z hm
      · rintro m24 K23 hK23 ρ29 w25 ⟨i_1, Ebs, hEbs, hfr28, hst27, hs26, r_y19, hm⟩
        obtain ⟨sf21, hsf22, hm⟩ := loop1_s hm; unfold m19_overflightref44_Check_B0 at hm
        subst hEbs; rw [hfr28.eq]; clear hfr28
        replace f_d_sectors := f_d_sectors.step hst27
        replace f_d_pending := f_d_pending.step hst27
        have ch30 := hst27
        refine Wp_seq ?_
        refine Wp_seq ?_
        refine Wp_region ?_  -- 5 ref.go:12
        refine Rg_op rfl (op_move (v := (Value.int .i64 i_1)) rfl ?_)
        refine Rg_op rfl (op_move (v := (Value.int .i64 (d.sectors.length : Int))) rfl ?_)
        refine Rg_op rfl (op_lss rfl rfl ?_)
        refine Rg_nil ?_
        refine Wp_cond rfl (fun hc31 => ?_) (fun hc31 => ?_)
        ·
          replace hm := bif_t hm hc31
          refine Wp_skip ?_
          refine Wp_seq ?_
          refine Wp_block ?_
          refine Wp_seq ?_
          refine Wp_region ?_  -- 7 ref.go:13
          refine Rg_op rfl (op_fieldAddr ty25 rfl ty22 (by decide) rfl (rfl : _ = (⟨_, 0, none⟩ : Addr)) ?_)
          refine Rg_op rfl (op_load (cs := [(Value.slice a_d_sectors d.sectors.length c_d_sectors), (Value.slice a_d_pending d.pending.length c_d_pending), (Value.int .i64 d.left), (Value.bool d.stopped)]) (i := 0) ty22 hs26 rfl rfl rfl ?_)
          refine Rg_op rfl (op_move (v := (Value.int .i64 i_1)) rfl ?_)
          replace hm := ck_some hm; obtain ⟨hc32, hm⟩ := hm
          refine Rg_op rfl (op_indexAddr (q := (rSl rU8)) ty22 ty41 rfl rfl f_d_sectors rfl hc32.1 hc32.2 ?_)
          intro p33 f34
          refine Rg_op rfl (op_loadP ty41 rfl f34 rfl ?_)
          intro v35 h36
          obtain ⟨a_y37, c_y37, rfl, f_y37⟩ := un_sl h36
          refine Rg_op rfl (op_len Try.underlying41 rfl ?_)
          refine Rg_op rfl (op_neq rfl rfl ?_)
          refine Rg_nil ?_
          refine Wp_cond rfl (fun hc38 => ?_) (fun hc38 => ?_)
          ·
            replace hm := bif_t hm hc38
            refine Wp_seq ?_
            clear f34 f_y37
            refine Wp_region ?_  -- 8 ref.go:14
            refine Rg_op rfl (op_assign (v := (Value.int .i64 440)) rfl ?_)
            refine Rg_nil ?_
            refine Wp_ret ?_
            have hz := step_all hs26
            replace f_d_sectors := f_d_sectors.step hz
            replace f_d_pending := f_d_pending.step hz
            refine ⟨_, (show Closes [] _ _ from rfl), [(Value.int .i64 440)], ⟨rfl, trivial⟩, hs26.ext, ?_⟩
            exact Vr.eq (a := (vI .i64)) (x := 440) ⟨rfl, (show InK .i64 440 from by decide)⟩ (Option.some.inj hm)
          ·
            replace hm := bif_f hm hc38
            refine Wp_skip ?_
            clear f34 f_y37
            refine Wp_region ?_  -- 6 ref.go:12
            refine Rg_op rfl (op_move (v := (Value.int .i64 i_1)) rfl ?_)
            refine Rg_op rfl (op_addw rfl rfl ?_)
            refine Rg_op rfl (op_assign (v := (Value.int .i64 (IntKind.wrap .i64 (i_1 + 1)))) rfl ?_)
            refine Rg_nil ?_
            exact hK23 _ _ ⟨(IntKind.wrap .i64 (i_1 + 1)), _, rfl, ⟨(by repeat (first | with_reducible exact Out.refl _ _ | refine Out.upd ?_ rfl | refine Out.updL ?_ rfl | refine Out.mix' ?_ rfl | exact Out.refl _ _)), rfl, rfl, trivial⟩, ch30, hs26, (inK_wrap .i64 _), jnE1 hsf22 hm⟩
        ·
          replace hm := bif_f hm hc31
          refine Wp_exit ?_
          refine Wp_seq ?_
          refine Wp_seq ?_
          refine Wp_region ?_  -- 9 ref.go:17
          refine Rg_op rfl (op_assign (v := (Value.int .i64 0)) rfl ?_)
          refine Rg_nil ?_
          refine Wp_block ?_
          refine Wp_reset [] [(1, (Value.pointer (some ⟨b1, 0, none⟩))), (3, (Value.int .i64 (d.sectors.length : Int))), (5, (Value.int .i64 0))] rfl ⟨rfl, rfl, rfl, trivial⟩ fun ξ40 => ?_
          refine Wp_loopM [2, 5, 6, 44, 45, 46, 47, 48, 49, 50, 51, 52, 53, 54, 55, 56, 57, 58, 59, 60, 61, 62, 63, 64, 65, 66, 67, 68, 69, 70] (fun m fr w' => ∃ (i_2 : Int) (Ebs : Ents), Ebs = [(some b1, Obj.cells [(Value.slice a_d_sectors d.sectors.length c_d_sectors), (Value.slice a_d_pending d.pending.length c_d_pending), (Value.int .i64 d.left), (Value.bool d.stopped)].toArray 25)] ∧ fr [] [(5, (Value.int .i64 i_2))] ∧ Step (ks [(some b1, Obj.cells [(Value.slice a_d_sectors d.sectors.length c_d_sectors), (Value.slice a_d_pending d.pending.length c_d_pending), (Value.int .i64 d.left), (Value.bool d.stopped)].toArray 25)] O) w25 (ks Ebs O) w' ∧ St ⟨w, [], []⟩ O w' Ebs ∧ InK .i64 i_2 ∧ loop1 (m19_overflightref44_Check_B1 d) m i_2 = some x) (((d.pending.length : Int) - 0).toNat + 1) ⟨0, _, rfl, ⟨Out.refl _ _, rfl, rfl, trivial⟩, Step.refl _ _, hs26, (show InK .i64 0 from by decide), hm⟩ ?_ ?_
          · rintro _ _ ⟨_, _, _, _, _, _, _, hm⟩; exact loop1_z hm
          · rintro m44 K43 hK43 ρ49 w45 ⟨i_2, Ebs, hEbs, hfr48, hst47, hs46, r_y39, hm⟩
            obtain ⟨sf41, hsf42, hm⟩ := loop1_s hm; unfold m19_overflightref44_Check_B1 at hm
            subst hEbs; rw [hfr48.eq]; clear hfr48
            replace f_d_sectors := f_d_sectors.step hst47
            replace f_d_pending := f_d_pending.step hst47
            replace ch30 := ch30.trans hst47
            have ch50 := hst47
            refine Wp_seq ?_
            refine Wp_seq ?_
            refine Wp_region ?_  -- 10 ref.go:17
            refine Rg_op rfl (op_move (v := (Value.int .i64 i_2)) rfl ?_)
            refine Rg_op rfl (op_fieldAddr ty25 rfl ty23 (by decide) rfl (rfl : _ = (⟨_, 1, none⟩ : Addr)) ?_)
            refine Rg_op rfl (op_load (cs := [(Value.slice a_d_sectors d.sectors.length c_d_sectors), (Value.slice a_d_pending d.pending.length c_d_pending), (Value.int .i64 d.left), (Value.bool d.stopped)]) (i := 0) ty23 hs46 rfl rfl rfl ?_)
            refine Rg_op rfl (op_len Try.underlying23 rfl ?_)
            refine Rg_op rfl (op_lss rfl rfl ?_)
            refine Rg_nil ?_
            refine Wp_cond rfl (fun hc51 => ?_) (fun hc51 => ?_)
            ·
              replace hm := bif_t hm hc51
              refine Wp_skip ?_
              refine Wp_seq ?_
              refine Wp_block ?_
              refine Wp_seq ?_
              refine Wp_region ?_  -- 12 ref.go:18
              refine Rg_op rfl (op_fieldAddr ty25 rfl ty23 (by decide) rfl (rfl : _ = (⟨_, 1, none⟩ : Addr)) ?_)
              refine Rg_op rfl (op_load (cs := [(Value.slice a_d_sectors d.sectors.length c_d_sectors), (Value.slice a_d_pending d.pending.length c_d_pending), (Value.int .i64 d.left), (Value.bool d.stopped)]) (i := 0) ty23 hs46 rfl rfl rfl ?_)
              refine Rg_op rfl (op_move (v := (Value.int .i64 i_2)) rfl ?_)
              replace hm := ck_some hm; obtain ⟨hc52, hm⟩ := hm
              refine Rg_op rfl (op_indexAddr (q := rXWrite) ty23 ty73 rfl rfl f_d_pending rfl hc52.1 hc52.2 ?_)
              intro p53 f54
              refine Rg_op rfl (op_loadPA ty73 rfl f54 rfl ?_)
              intro vs55 h56
              obtain ⟨_, _, rfl, ⟨rfl, r_y57_at_⟩, ⟨a_y57_data, c_y57_data, rfl, f_y57_data⟩⟩ := h56
              refine Rg_op rfl (op_alloc ty73 hs46 ?_)
              intro b58 w59 _ p60 hs61
              replace f_d_sectors := f_d_sectors.step p60
              replace f_d_pending := f_d_pending.step p60
              replace f54 := f54.step p60
              replace f_y57_data := f_y57_data.step p60
              replace ch30 := ch30.trans p60
              replace ch50 := ch50.trans p60
              clear p60 hs46
              refine Rg_op_ (op_store (cs := [(Value.int .i64 0), (Value.slice none 0 0)]) (vs := [(Value.int .i64 ((d.pending.getD i_2.toNat default).at_)), (Value.slice a_y57_data ((d.pending.getD i_2.toNat default).data).length c_y57_data)]) (cs' := [(Value.int .i64 ((d.pending.getD i_2.toNat default).at_)), (Value.slice a_y57_data ((d.pending.getD i_2.toNat default).data).length c_y57_data)]) (bs' := [(some b58, Obj.cells [(Value.int .i64 ((d.pending.getD i_2.toNat default).at_)), (Value.slice a_y57_data ((d.pending.getD i_2.toNat default).data).length c_y57_data)].toArray 73), (some b1, Obj.cells [(Value.slice a_d_sectors d.sectors.length c_d_sectors), (Value.slice a_d_pending d.pending.length c_d_pending), (Value.int .i64 d.left), (Value.bool d.stopped)].toArray 25)]) (i := 0) ty73 hs61 rfl rfl rfl rfl rfl (le_lit rfl) rfl rfl rfl ?_)
              intro w63 p64 hs65
              replace f_d_sectors := f_d_sectors.step p64
              replace f_d_pending := f_d_pending.step p64
              replace f54 := f54.step p64
              replace f_y57_data := f_y57_data.step p64
              replace ch30 := ch30.trans p64
              replace ch50 := ch50.trans p64
              clear p64 hs61
              refine Rg_nil ?_
              refine Wp_reset2 [2, 5, 6, 44, 45, 46, 47, 48, 49, 50, 51, 52, 53, 54, 55, 56, 57, 58, 59, 60, 61, 62, 63, 64, 65, 66, 67, 68, 69, 70] [] (updL ⟨ξ40, []⟩ [(1, (Value.pointer (some ⟨b1, 0, none⟩))), (3, (Value.int .i64 (d.sectors.length : Int))), (5, (Value.int .i64 0))]) [(5, (Value.int .i64 i_2)), (6, (Value.pointer (some ⟨b58, 0, none⟩)))] (by repeat (first | with_reducible exact Out.refl _ _ | refine Out.upd ?_ rfl | refine Out.updL ?_ rfl | refine Out.mix' ?_ rfl | exact Out.refl _ _)) rfl ⟨rfl, rfl, trivial⟩ fun ξ66 => ?_
              replace hm := jn_elim hm; obtain ⟨k68, hk69, hm⟩ := hm
              refine Wp_seqJ [56, 57, 58, 59, 60, 61, 62, 63, 64, 65, 66, 67, 68, 69, 70] (fun fr w' => ∃ (v_2 : Bool) (Ebs : Ents), Ebs = [(some b58, Obj.cells [(Value.int .i64 ((d.pending.getD i_2.toNat default).at_)), (Value.slice a_y57_data ((d.pending.getD i_2.toNat default).data).length c_y57_data)].toArray 73), (some b1, Obj.cells [(Value.slice a_d_sectors d.sectors.length c_d_sectors), (Value.slice a_d_pending d.pending.length c_d_pending), (Value.int .i64 d.left), (Value.bool d.stopped)].toArray 25)] ∧ fr [] [(70, (Value.bool v_2))] ∧ Step (ks [(some b58, Obj.cells [(Value.int .i64 ((d.pending.getD i_2.toNat default).at_)), (Value.slice a_y57_data ((d.pending.getD i_2.toNat default).data).length c_y57_data)].toArray 73), (some b1, Obj.cells [(Value.slice a_d_sectors d.sectors.length c_d_sectors), (Value.slice a_d_pending d.pending.length c_d_pending), (Value.int .i64 d.left), (Value.bool d.stopped)].toArray 25)] O) w63 (ks Ebs O) w' ∧ St ⟨w, [], []⟩ O w' Ebs ∧ k68 v_2 = some x) ?_ ?_
              ·
                rintro ρ75 w71 ⟨v_2, Ebs, hEbs, hfr74, hst73, hs72, hm⟩
                replace hm := jnE1 hk69 hm
                subst hEbs; rw [hfr74.eq]; clear hfr74
                replace f_d_sectors := f_d_sectors.step hst73
                replace f_d_pending := f_d_pending.step hst73
                replace f54 := f54.step hst73
                replace f_y57_data := f_y57_data.step hst73
                replace ch30 := ch30.trans hst73
                replace ch50 := ch50.trans hst73
                clear hst73 hs65
                refine Wp_cond rfl (fun hc76 => ?_) (fun hc76 => ?_)
                ·
                  replace hm := bif_t hm hc76
                  refine Wp_seq ?_
                  clear f54
                  refine Wp_region ?_  -- 14 ref.go:20
                  refine Rg_op rfl (op_assign (v := (Value.int .i64 440)) rfl ?_)
                  refine Rg_nil ?_
                  refine Wp_ret ?_
                  have hz := step_all hs72
                  replace f_d_sectors := f_d_sectors.step hz
                  replace f_d_pending := f_d_pending.step hz
                  replace f_y57_data := f_y57_data.step hz
                  refine ⟨_, (show Closes [] _ _ from rfl), [(Value.int .i64 440)], ⟨rfl, trivial⟩, hs72.ext, ?_⟩
                  exact Vr.eq (a := (vI .i64)) (x := 440) ⟨rfl, (show InK .i64 440 from by decide)⟩ (Option.some.inj hm)
                ·
                  replace hm := bif_f hm hc76
                  refine Wp_skip ?_
                  clear f54
                  refine Wp_region ?_  -- 11 ref.go:17
                  refine Rg_op rfl (op_move (v := (Value.int .i64 i_2)) rfl ?_)
                  refine Rg_op rfl (op_addw rfl rfl ?_)
                  refine Rg_op rfl (op_assign (v := (Value.int .i64 (IntKind.wrap .i64 (i_2 + 1)))) rfl ?_)
                  refine Rg_nil ?_
                  have hs77 := hs72.drop 0
                  replace f_d_sectors := f_d_sectors.step (Step.drop _ _ [(some b58, Obj.cells [(Value.int .i64 ((d.pending.getD i_2.toNat default).at_)), (Value.slice a_y57_data ((d.pending.getD i_2.toNat default).data).length c_y57_data)].toArray 73), (some b1, Obj.cells [(Value.slice a_d_sectors d.sectors.length c_d_sectors), (Value.slice a_d_pending d.pending.length c_d_pending), (Value.int .i64 d.left), (Value.bool d.stopped)].toArray 25)] 0)
                  replace f_d_pending := f_d_pending.step (Step.drop _ _ [(some b58, Obj.cells [(Value.int .i64 ((d.pending.getD i_2.toNat default).at_)), (Value.slice a_y57_data ((d.pending.getD i_2.toNat default).data).length c_y57_data)].toArray 73), (some b1, Obj.cells [(Value.slice a_d_sectors d.sectors.length c_d_sectors), (Value.slice a_d_pending d.pending.length c_d_pending), (Value.int .i64 d.left), (Value.bool d.stopped)].toArray 25)] 0)
                  replace f_y57_data := f_y57_data.step (Step.drop _ _ [(some b58, Obj.cells [(Value.int .i64 ((d.pending.getD i_2.toNat default).at_)), (Value.slice a_y57_data ((d.pending.getD i_2.toNat default).data).length c_y57_data)].toArray 73), (some b1, Obj.cells [(Value.slice a_d_sectors d.sectors.length c_d_sectors), (Value.slice a_d_pending d.pending.length c_d_pending), (Value.int .i64 d.left), (Value.bool d.stopped)].toArray 25)] 0)
                  replace ch30 := ch30.trans (Step.drop _ _ [(some b58, Obj.cells [(Value.int .i64 ((d.pending.getD i_2.toNat default).at_)), (Value.slice a_y57_data ((d.pending.getD i_2.toNat default).data).length c_y57_data)].toArray 73), (some b1, Obj.cells [(Value.slice a_d_sectors d.sectors.length c_d_sectors), (Value.slice a_d_pending d.pending.length c_d_pending), (Value.int .i64 d.left), (Value.bool d.stopped)].toArray 25)] 0)
                  replace ch50 := ch50.trans (Step.drop _ _ [(some b58, Obj.cells [(Value.int .i64 ((d.pending.getD i_2.toNat default).at_)), (Value.slice a_y57_data ((d.pending.getD i_2.toNat default).data).length c_y57_data)].toArray 73), (some b1, Obj.cells [(Value.slice a_d_sectors d.sectors.length c_d_sectors), (Value.slice a_d_pending d.pending.length c_d_pending), (Value.int .i64 d.left), (Value.bool d.stopped)].toArray 25)] 0)
                  clear hs72
                  exact hK43 _ _ ⟨(IntKind.wrap .i64 (i_2 + 1)), _, rfl, ⟨(by repeat (first | with_reducible exact Out.refl _ _ | refine Out.upd ?_ rfl | refine Out.updL ?_ rfl | refine Out.mix' ?_ rfl | exact Out.refl _ _)), rfl, rfl, trivial⟩, ch50, hs77, (inK_wrap .i64 _), jnE1 hsf42 hm⟩
              ·
                intro K70 hK70
                have ch78 := Step.refl (ks [(some b58, Obj.cells [(Value.int .i64 ((d.pending.getD i_2.toNat default).at_)), (Value.slice a_y57_data ((d.pending.getD i_2.toNat default).data).length c_y57_data)].toArray 73), (some b1, Obj.cells [(Value.slice a_d_sectors d.sectors.length c_d_sectors), (Value.slice a_d_pending d.pending.length c_d_pending), (Value.int .i64 d.left), (Value.bool d.stopped)].toArray 25)] O) w63
                clear f54
                refine Wp_region ?_  -- 13 ref.go:19
                refine Rg_op rfl (op_fieldAddr ty73 rfl ty3 (by decide) rfl (rfl : _ = (⟨_, 0, none⟩ : Addr)) ?_)
                refine Rg_op rfl (op_load (cs := [(Value.int .i64 ((d.pending.getD i_2.toNat default).at_)), (Value.slice a_y57_data ((d.pending.getD i_2.toNat default).data).length c_y57_data)]) (i := 0) ty3 hs65 rfl rfl rfl ?_)
                refine Rg_op rfl (op_lss rfl rfl ?_)
                refine Rg_op rfl (op_move (v := (Value.bool (decide (((d.pending.getD i_2.toNat default).at_) < 0)))) rfl ?_)
                refine Rg_case (fun hg79 => ?_) (fun hg79 => ?_)
                ·
                  replace hm := bif_t hm hg79
                  refine Rg_opx rfl (asB_ne rfl rfl) rfl ?_
                  refine Rg_opx rfl (asB_ne rfl rfl) rfl ?_
                  refine Rg_opx rfl (asB_ne rfl rfl) rfl ?_
                  refine Rg_opx rfl (asB_ne rfl rfl) rfl ?_
                  refine Rg_op rfl (op_pick_t (v := (Value.bool true)) rfl rfl ?_)
                  refine Rg_op rfl (op_move (v := (Value.bool true)) rfl ?_)
                  refine Rg_opx rfl (asB_ne rfl rfl) rfl ?_
                  refine Rg_opx rfl (asB_ne rfl rfl) rfl ?_
                  refine Rg_opx rfl (asB_ne rfl rfl) rfl ?_
                  refine Rg_opx rfl (asB_ne rfl rfl) rfl ?_
                  refine Rg_op rfl (op_pick_t (v := (Value.bool true)) rfl rfl ?_)
                  refine Rg_nil ?_
                  exact hK70 _ _ ⟨true, _, rfl, ⟨(by repeat (first | with_reducible exact Out.refl _ _ | refine Out.upd ?_ rfl | refine Out.updL ?_ rfl | refine Out.mix' ?_ rfl | exact Out.refl _ _)), rfl, rfl, trivial⟩, ch78, hs65, hm⟩
                ·
                  replace hm := bif_f hm hg79
                  refine Rg_opg rfl rfl rfl (op_fieldAddr ty73 rfl ty3 (by decide) rfl (rfl : _ = (⟨_, 0, none⟩ : Addr)) ?_)
                  refine Rg_opg rfl rfl rfl (op_load (cs := [(Value.int .i64 ((d.pending.getD i_2.toNat default).at_)), (Value.slice a_y57_data ((d.pending.getD i_2.toNat default).data).length c_y57_data)]) (i := 0) ty3 hs65 rfl rfl rfl ?_)
                  refine Rg_opg rfl rfl rfl (op_move (v := (Value.int .i64 (d.sectors.length : Int))) rfl ?_)
                  refine Rg_opg rfl rfl rfl (op_geq rfl rfl ?_)
                  refine Rg_op rfl (op_pick_f (v := (Value.bool (decide ((d.sectors.length : Int) ≤ ((d.pending.getD i_2.toNat default).at_))))) rfl rfl ?_)
                  refine Rg_op rfl (op_move (v := (Value.bool (decide ((d.sectors.length : Int) ≤ ((d.pending.getD i_2.toNat default).at_))))) rfl ?_)
                  refine Rg_case (fun hg80 => ?_) (fun hg80 => ?_)
                  ·
                    replace hm := bif_t hm hg80
                    refine Rg_opx rfl (asB_ne rfl rfl) rfl ?_
                    refine Rg_opx rfl (asB_ne rfl rfl) rfl ?_
                    refine Rg_opx rfl (asB_ne rfl rfl) rfl ?_
                    refine Rg_opx rfl (asB_ne rfl rfl) rfl ?_
                    refine Rg_op rfl (op_pick_t (v := (Value.bool true)) rfl rfl ?_)
                    refine Rg_nil ?_
                    exact hK70 _ _ ⟨true, _, rfl, ⟨(by repeat (first | with_reducible exact Out.refl _ _ | refine Out.upd ?_ rfl | refine Out.updL ?_ rfl | refine Out.mix' ?_ rfl | exact Out.refl _ _)), rfl, rfl, trivial⟩, ch78, hs65, hm⟩
                  ·
                    replace hm := bif_f hm hg80
                    refine Rg_opg rfl rfl rfl (op_fieldAddr ty73 rfl ty41 (by decide) rfl (rfl : _ = (⟨_, 1, none⟩ : Addr)) ?_)
                    refine Rg_opg rfl rfl rfl (op_load (cs := [(Value.int .i64 ((d.pending.getD i_2.toNat default).at_)), (Value.slice a_y57_data ((d.pending.getD i_2.toNat default).data).length c_y57_data)]) (i := 0) ty41 hs65 rfl rfl rfl ?_)
                    refine Rg_opg rfl rfl rfl (op_len Try.underlying41 rfl ?_)
                    refine Rg_opg rfl rfl rfl (op_neq rfl rfl ?_)
                    refine Rg_op rfl (op_pick_f (v := (Value.bool (decide ((((d.pending.getD i_2.toNat default).data).length : Int) ≠ 128)))) rfl rfl ?_)
                    refine Rg_nil ?_
                    exact hK70 _ _ ⟨(decide ((((d.pending.getD i_2.toNat default).data).length : Int) ≠ 128)), _, rfl, ⟨(by repeat (first | with_reducible exact Out.refl _ _ | refine Out.upd ?_ rfl | refine Out.updL ?_ rfl | refine Out.mix' ?_ rfl | exact Out.refl _ _)), rfl, rfl, trivial⟩, ch78, hs65, hm⟩
            ·
              replace hm := bif_f hm hc51
              refine Wp_exit ?_
              refine Wp_seq ?_
              obtain ⟨hs81, p82⟩ := hs46.sub (bs' := []) (.cons _ List.Sublist.slnil)
              clear f_d_sectors f_d_pending
              replace ch30 := ch30.trans p82
              replace ch50 := ch50.trans p82
              clear p82 hs46
              refine Wp_region ?_  -- 15 ref.go:23
              refine Rg_op rfl (op_assign (v := (Value.int .i64 0)) rfl ?_)
              refine Rg_nil ?_
              refine Wp_ret ?_
              have hz := step_all hs81
              refine ⟨_, (show Closes [] _ _ from rfl), [(Value.int .i64 0)], ⟨rfl, trivial⟩, hs81.ext, ?_⟩
              exact Vr.eq (a := (vI .i64)) (x := 0) ⟨rfl, (show InK .i64 0 from by decide)⟩ (Option.some.inj hm)
  ·
    intro K10 hK10
    have ch83 := Step.refl (ks [(some b1, Obj.cells [(Value.slice a_d_sectors d.sectors.length c_d_sectors), (Value.slice a_d_pending d.pending.length c_d_pending), (Value.int .i64 d.left), (Value.bool d.stopped)].toArray 25)] O) w2
    refine Wp_region ?_  -- 2 ref.go:9
    refine Rg_op rfl (op_move (v := (Value.int .i64 (d.sectors.length : Int))) rfl ?_)
    refine Rg_op rfl (op_lss rfl rfl ?_)
    refine Rg_op rfl (op_move (v := (Value.bool (decide ((d.sectors.length : Int) < 1)))) rfl ?_)
    refine Rg_case (fun hg84 => ?_) (fun hg84 => ?_)
    ·
      replace hm := bif_t hm hg84
      refine Rg_opx rfl (asB_ne rfl rfl) rfl ?_
      refine Rg_opx rfl (asB_ne rfl rfl) rfl ?_
      refine Rg_op rfl (op_pick_t (v := (Value.bool true)) rfl rfl ?_)
      refine Rg_op rfl (op_move (v := (Value.bool true)) rfl ?_)
      refine Rg_opx rfl (asB_ne rfl rfl) rfl ?_
      refine Rg_opx rfl (asB_ne rfl rfl) rfl ?_
      refine Rg_opx rfl (asB_ne rfl rfl) rfl ?_
      refine Rg_opx rfl (asB_ne rfl rfl) rfl ?_
      refine Rg_op rfl (op_pick_t (v := (Value.bool true)) rfl rfl ?_)
      refine Rg_op rfl (op_move (v := (Value.bool true)) rfl ?_)
      refine Rg_opx rfl (asB_ne rfl rfl) rfl ?_
      refine Rg_opx rfl (asB_ne rfl rfl) rfl ?_
      refine Rg_opx rfl (asB_ne rfl rfl) rfl ?_
      refine Rg_op rfl (op_pick_t (v := (Value.bool true)) rfl rfl ?_)
      refine Rg_op rfl (op_move (v := (Value.bool true)) rfl ?_)
      refine Rg_opx rfl (asB_ne rfl rfl) rfl ?_
      refine Rg_opx rfl (asB_ne rfl rfl) rfl ?_
      refine Rg_opx rfl (asB_ne rfl rfl) rfl ?_
      refine Rg_op rfl (op_pick_t (v := (Value.bool true)) rfl rfl ?_)
      refine Rg_nil ?_
      exact hK10 _ _ ⟨true, _, rfl, ⟨(by repeat (first | with_reducible exact Out.refl _ _ | refine Out.upd ?_ rfl | refine Out.updL ?_ rfl | refine Out.mix' ?_ rfl | exact Out.refl _ _)), rfl, rfl, trivial⟩, ch83, hs4, hm⟩
    ·
      replace hm := bif_f hm hg84
      refine Rg_opg rfl rfl rfl (op_move (v := (Value.int .i64 (d.sectors.length : Int))) rfl ?_)
      refine Rg_opg rfl rfl rfl (op_gtr rfl rfl ?_)
      refine Rg_op rfl (op_pick_f (v := (Value.bool (decide (4096 < (d.sectors.length : Int))))) rfl rfl ?_)
      refine Rg_op rfl (op_move (v := (Value.bool (decide (4096 < (d.sectors.length : Int))))) rfl ?_)
      refine Rg_case (fun hg85 => ?_) (fun hg85 => ?_)
      ·
        replace hm := bif_t hm hg85
        refine Rg_opx rfl (asB_ne rfl rfl) rfl ?_
        refine Rg_opx rfl (asB_ne rfl rfl) rfl ?_
        refine Rg_opx rfl (asB_ne rfl rfl) rfl ?_
        refine Rg_opx rfl (asB_ne rfl rfl) rfl ?_
        refine Rg_op rfl (op_pick_t (v := (Value.bool true)) rfl rfl ?_)
        refine Rg_op rfl (op_move (v := (Value.bool true)) rfl ?_)
        refine Rg_opx rfl (asB_ne rfl rfl) rfl ?_
        refine Rg_opx rfl (asB_ne rfl rfl) rfl ?_
        refine Rg_opx rfl (asB_ne rfl rfl) rfl ?_
        refine Rg_op rfl (op_pick_t (v := (Value.bool true)) rfl rfl ?_)
        refine Rg_op rfl (op_move (v := (Value.bool true)) rfl ?_)
        refine Rg_opx rfl (asB_ne rfl rfl) rfl ?_
        refine Rg_opx rfl (asB_ne rfl rfl) rfl ?_
        refine Rg_opx rfl (asB_ne rfl rfl) rfl ?_
        refine Rg_op rfl (op_pick_t (v := (Value.bool true)) rfl rfl ?_)
        refine Rg_nil ?_
        exact hK10 _ _ ⟨true, _, rfl, ⟨(by repeat (first | with_reducible exact Out.refl _ _ | refine Out.upd ?_ rfl | refine Out.updL ?_ rfl | refine Out.mix' ?_ rfl | exact Out.refl _ _)), rfl, rfl, trivial⟩, ch83, hs4, hm⟩
      ·
        replace hm := bif_f hm hg85
        refine Rg_opg rfl rfl rfl (op_fieldAddr ty25 rfl ty23 (by decide) rfl (rfl : _ = (⟨_, 1, none⟩ : Addr)) ?_)
        refine Rg_opg rfl rfl rfl (op_load (cs := [(Value.slice a_d_sectors d.sectors.length c_d_sectors), (Value.slice a_d_pending d.pending.length c_d_pending), (Value.int .i64 d.left), (Value.bool d.stopped)]) (i := 0) ty23 hs4 rfl rfl rfl ?_)
        refine Rg_opg rfl rfl rfl (op_len Try.underlying23 rfl ?_)
        refine Rg_opg rfl rfl rfl (op_gtr rfl rfl ?_)
        refine Rg_op rfl (op_pick_f (v := (Value.bool (decide (4096 < (d.pending.length : Int))))) rfl rfl ?_)
        refine Rg_op rfl (op_move (v := (Value.bool (decide (4096 < (d.pending.length : Int))))) rfl ?_)
        refine Rg_case (fun hg86 => ?_) (fun hg86 => ?_)
        ·
          replace hm := bif_t hm hg86
          refine Rg_opx rfl (asB_ne rfl rfl) rfl ?_
          refine Rg_opx rfl (asB_ne rfl rfl) rfl ?_
          refine Rg_opx rfl (asB_ne rfl rfl) rfl ?_
          refine Rg_op rfl (op_pick_t (v := (Value.bool true)) rfl rfl ?_)
          refine Rg_op rfl (op_move (v := (Value.bool true)) rfl ?_)
          refine Rg_opx rfl (asB_ne rfl rfl) rfl ?_
          refine Rg_opx rfl (asB_ne rfl rfl) rfl ?_
          refine Rg_opx rfl (asB_ne rfl rfl) rfl ?_
          refine Rg_op rfl (op_pick_t (v := (Value.bool true)) rfl rfl ?_)
          refine Rg_nil ?_
          exact hK10 _ _ ⟨true, _, rfl, ⟨(by repeat (first | with_reducible exact Out.refl _ _ | refine Out.upd ?_ rfl | refine Out.updL ?_ rfl | refine Out.mix' ?_ rfl | exact Out.refl _ _)), rfl, rfl, trivial⟩, ch83, hs4, hm⟩
        ·
          replace hm := bif_f hm hg86
          refine Rg_opg rfl rfl rfl (op_fieldAddr ty25 rfl ty3 (by decide) rfl (rfl : _ = (⟨_, 2, none⟩ : Addr)) ?_)
          refine Rg_opg rfl rfl rfl (op_load (cs := [(Value.slice a_d_sectors d.sectors.length c_d_sectors), (Value.slice a_d_pending d.pending.length c_d_pending), (Value.int .i64 d.left), (Value.bool d.stopped)]) (i := 0) ty3 hs4 rfl rfl rfl ?_)
          refine Rg_opg rfl rfl rfl (op_lss rfl rfl ?_)
          refine Rg_op rfl (op_pick_f (v := (Value.bool (decide (d.left < (-1))))) rfl rfl ?_)
          refine Rg_op rfl (op_move (v := (Value.bool (decide (d.left < (-1))))) rfl ?_)
          refine Rg_case (fun hg87 => ?_) (fun hg87 => ?_)
          ·
            replace hm := bif_t hm hg87
            refine Rg_opx rfl (asB_ne rfl rfl) rfl ?_
            refine Rg_opx rfl (asB_ne rfl rfl) rfl ?_
            refine Rg_opx rfl (asB_ne rfl rfl) rfl ?_
            refine Rg_op rfl (op_pick_t (v := (Value.bool true)) rfl rfl ?_)
            refine Rg_nil ?_
            exact hK10 _ _ ⟨true, _, rfl, ⟨(by repeat (first | with_reducible exact Out.refl _ _ | refine Out.upd ?_ rfl | refine Out.updL ?_ rfl | refine Out.mix' ?_ rfl | exact Out.refl _ _)), rfl, rfl, trivial⟩, ch83, hs4, hm⟩
          ·
            replace hm := bif_f hm hg87
            refine Rg_opg rfl rfl rfl (op_fieldAddr ty25 rfl ty3 (by decide) rfl (rfl : _ = (⟨_, 2, none⟩ : Addr)) ?_)
            refine Rg_opg rfl rfl rfl (op_load (cs := [(Value.slice a_d_sectors d.sectors.length c_d_sectors), (Value.slice a_d_pending d.pending.length c_d_pending), (Value.int .i64 d.left), (Value.bool d.stopped)]) (i := 0) ty3 hs4 rfl rfl rfl ?_)
            refine Rg_opg rfl rfl rfl (op_gtr rfl rfl ?_)
            refine Rg_op rfl (op_pick_f (v := (Value.bool (decide (65536 < d.left)))) rfl rfl ?_)
            refine Rg_nil ?_
            exact hK10 _ _ ⟨(decide (65536 < d.left)), _, rfl, ⟨(by repeat (first | with_reducible exact Out.refl _ _ | refine Out.upd ?_ rfl | refine Out.updL ?_ rfl | refine Out.mix' ?_ rfl | exact Out.refl _ _)), rfl, rfl, trivial⟩, ch83, hs4, hm⟩

end Go.Fx


/- The plain laws of chapter 44. -/
set_option linter.unusedSimpArgs false
set_option linter.unusedVariables false
namespace Go.Fx
open Go Go.RowKit
theorem sane_eq : m13_overflightlaw44_sane = some true := by kernel_rfl

/-- the first index from i where g holds, or -1 -/
def fidx {α} (g : α → Bool) : Nat → List α → Int
  | _, [] => -1
  | i, x :: t => bif g x then (i : Int) else fidx g (i + 1) t
theorem fidx_any {α} (g : α → Bool) (l : List α) (i : Nat) : decide (0 ≤ fidx g i l) = l.any g := by
  induction l generalizing i with
  | nil => rfl
  | cons x t ih => cases h : g x <;> simp [fidx, h, ih]
theorem m44_eq (s : List XWrite) (f : XWrite → Option Bool) (g : XWrite → Bool) (hf : ∀ x, f x = some (g x)) (hl : s.length < 9223372036854775807) : m44_api_Write_ s f = some (s.any g) := by
  have : m65_api_Write_ s f = some (fidx g 0 s) := by
    unfold m65_api_Write_
    refine up_listI (fun i t => some (fidx g i t)) s hl ?_ ?_ (by omega)
    · intro sf; unfold m65_api_Write__B0; simp [fidx]
    · intro sf i x t h1 h2 h3 ih; unfold m65_api_Write__B0; obtain ⟨_, rfl⟩ := List.getElem?_eq_some_iff.1 h2; cases h : g s[i] <;> simp [h1, h3, ih, hf, h, fidx, ck_eq]
  unfold m44_api_Write_; rw [this]; simp [fidx_any]
theorem m45_eq (s : List (List UInt8)) (f : List UInt8 → Option Bool) (g : List UInt8 → Bool) (hf : ∀ x, f x = some (g x)) (hl : s.length < 9223372036854775807) : m45_slices_ContainsFuncbyte_byte_ s f = some (s.any g) := by
  have : m66_slices_IndexFuncbyte_byte_ s f = some (fidx g 0 s) := by
    unfold m66_slices_IndexFuncbyte_byte_
    refine up_listI (fun i t => some (fidx g i t)) s hl ?_ ?_ (by omega)
    · intro sf; unfold m66_slices_IndexFuncbyte_byte__B0; simp [fidx]
    · intro sf i x t h1 h2 h3 ih; unfold m66_slices_IndexFuncbyte_byte__B0; obtain ⟨_, rfl⟩ := List.getElem?_eq_some_iff.1 h2; cases h : g s[i] <;> simp [h1, h3, ih, hf, h, fidx, ck_eq]
  unfold m45_slices_ContainsFuncbyte_byte_; rw [this]; simp [fidx_any]

def secBad (b : List UInt8) : Bool := !decide (b.length = 128)
def wrBad (n : Nat) (w : XWrite) : Bool := decide (w.at_ < 0) || decide ((n : Int) ≤ w.at_) || !decide (w.data.length = 128)
/-- what Check answers -/
def chk (d : XDisk) : Bool := !(decide ((d.sectors.length : Int) < 1) || decide (4096 < (d.sectors.length : Int)) || decide (4096 < (d.pending.length : Int)) || decide (d.left < -1) || decide (65536 < d.left) || d.pending.any (wrBad d.sectors.length) || d.sectors.any secBad)
def lim : Nat := 140737488351232
structure Few' (d : XDisk) : Prop where
  s : d.sectors.length < 9223372036854775807
  p : d.pending.length < 9223372036854775807
theorem m18_eq (d : XDisk) (h : Few' d) : m18_disk_Check d = some (bif chk d then 0 else 440) := by
  unfold m18_disk_Check
  rw [m44_eq _ _ (wrBad d.sectors.length) _ h.p, m45_eq _ _ secBad _ h.s]
  · unfold chk
    simp only [jn_eq, Option.bind_some]
    cases decide ((d.sectors.length : Int) < 1) <;> cases decide (4096 < (d.sectors.length : Int)) <;> cases decide (4096 < (d.pending.length : Int)) <;> cases decide (d.left < -1) <;> cases decide (65536 < d.left) <;> cases d.pending.any (wrBad d.sectors.length) <;> cases d.sectors.any secBad <;> rfl
  · intro x; simp [m46_disk_Check_2, m43_disk_isSector, secBad]; omega
  · intro w; simp only [m42_disk_Check_1, m43_disk_isSector, wrBad]
    by_cases h1 : w.at_ < 0 <;> by_cases h2 : (d.sectors.length : Int) ≤ w.at_ <;> by_cases h3 : w.data.length = 128 <;> simp [h1, h2, h3] <;> omega
theorem m19_eq (d : XDisk) (h : Few' d) : m19_overflightref44_Check d = some (bif chk d then 0 else 440) := by
  unfold m19_overflightref44_Check
  have e1 : loop1 (m19_overflightref44_Check_B1 d) (((d.pending.length : Int) - 0).toNat + 1) 0 = some (bif d.pending.any (wrBad d.sectors.length) then 440 else 0) := by
    refine up_list0 (fun t => some (bif t.any (wrBad d.sectors.length) then 440 else 0)) d.pending h.p ?_ ?_ (by simp)
    · intro sf; simp [m19_overflightref44_Check_B1]
    · intro sf i x t h1 h2 h3 ih; obtain ⟨_, rfl⟩ := List.getElem?_eq_some_iff.1 h2
      unfold m19_overflightref44_Check_B1
      simp only [wrBad, List.any_cons]
      have k4 : ((d.pending[i].data.length : Int) = 128) = (d.pending[i].data.length = 128) := by apply propext; omega
      by_cases k1 : (d.pending[i]).at_ < 0 <;> by_cases k2 : (d.sectors.length : Int) ≤ (d.pending[i]).at_ <;> by_cases k3 : (d.pending[i]).data.length = 128 <;> simp [h1, h3, ih, k1, k2, k3, k4, ck_eq, wrBad]
  have e0 : loop1 (m19_overflightref44_Check_B0 d) (((d.sectors.length : Int) - 0).toNat + 1) 0 = some (bif d.sectors.any secBad then 440 else bif d.pending.any (wrBad d.sectors.length) then 440 else 0) := by
    refine up_list0 (fun t => some (bif t.any secBad then 440 else bif d.pending.any (wrBad d.sectors.length) then 440 else 0)) d.sectors h.s ?_ ?_ (by simp)
    · intro sf; unfold m19_overflightref44_Check_B0; rw [e1]; simp
    · intro sf i x t h1 h2 h3 ih; obtain ⟨_, rfl⟩ := List.getElem?_eq_some_iff.1 h2
      unfold m19_overflightref44_Check_B0
      rw [e1]
      have k4 : ((d.sectors[i].length : Int) = 128) = (d.sectors[i].length = 128) := by apply propext; omega
      by_cases k3 : (d.sectors[i]).length = 128 <;> simp [h1, h3, ih, k3, k4, ck_eq, secBad]
  rw [e0]
  unfold chk
  simp only [jn_eq, Option.bind_some]
  cases decide ((d.sectors.length : Int) < 1) <;> cases decide (4096 < (d.sectors.length : Int)) <;> cases decide (4096 < (d.pending.length : Int)) <;> cases decide (d.left < -1) <;> cases decide (65536 < d.left) <;> cases d.pending.any (wrBad d.sectors.length) <;> cases d.sectors.any secBad <;> rfl
theorem m17_refl (a : XDisk) (h : Few' a) : m17_overflightref44_Same a a = some true := by
  unfold m17_overflightref44_Same
  have e1 : loop1 (m17_overflightref44_Same_B1 a a) (((a.pending.length : Int) - 0).toNat + 1) 0 = some true := by
    refine up_list0 (fun t => some true) a.pending h.p ?_ ?_ (by simp)
    · intro sf; simp [m17_overflightref44_Same_B1]
    · intro sf i x t h1 h2 h3 ih; obtain ⟨_, rfl⟩ := List.getElem?_eq_some_iff.1 h2
      unfold m17_overflightref44_Same_B1
      simp [h1, h3, ih, ck_eq]
  have e0 : loop1 (m17_overflightref44_Same_B0 a a) (((a.sectors.length : Int) - 0).toNat + 1) 0 = some true := by
    refine up_list0 (fun t => some true) a.sectors h.s ?_ ?_ (by simp)
    · intro sf; unfold m17_overflightref44_Same_B0; rw [e1]; simp
    · intro sf i x t h1 h2 h3 ih; obtain ⟨_, rfl⟩ := List.getElem?_eq_some_iff.1 h2
      unfold m17_overflightref44_Same_B0
      simp [h1, h3, ih, ck_eq]
  rw [e0]; simp
theorem up_while {σ R : Type} {L : Nat → σ → Option R} (μ : σ → Nat) (I : σ → Prop) (T : σ → Option R)
    (hS : ∀ n s, I s → (∀ s', I s' → μ s' < μ s → L n s' = T s') → L (n + 1) s = T s) : ∀ fuel s, I s → μ s < fuel → L fuel s = T s := by
  intro fuel
  induction fuel with
  | zero => intro s _ h; omega
  | succ n ih => intro s hI hf; exact hS n s hI fun s' hI' hm => ih s' hI' (by omega)
theorem up_ex {σ R : Type} {L : Nat → σ → Option R} (μ : σ → Nat) (I : σ → Prop) (Q : Option R → Prop)
    (hS : ∀ n s, I s → (∀ s', I s' → μ s' < μ s → Q (L n s')) → Q (L (n + 1) s)) : ∀ fuel s, I s → μ s < fuel → Q (L fuel s) := by
  intro fuel
  induction fuel with
  | zero => intro s _ h; omega
  | succ n ih => intro s hI hf; exact hS n s hI fun s' hI' hm => ih s' hI' (by omega)
/-- the disk is small -/
theorem m14_tot (d : XDisk) (h1 : d.sectors.length ≤ 140737488351232) (h2 : ∀ s ∈ d.sectors, s.length ≤ 140737488351232) (h3 : d.pending.length ≤ 140737488351232) (h4 : ∀ w ∈ d.pending, w.data.length ≤ 140737488351232) : ∃ b, m14_overflightref44_Few d = some b := by
  have e1 : ∀ n : Int, 0 ≤ n → n ≤ 140737488361232 → ∃ b, loop2 (m14_overflightref44_Few_B1 d) 1000000 n 0 = some b := by
    intro n hn hm
    refine up_ex (σ := Int × Nat) (L := fun k s => loop2 (m14_overflightref44_Few_B1 d) k s.1 s.2) (fun s => (9001 - s.1).toNat) (fun s => 0 ≤ s.1 ∧ s.1 ≤ 140737488361232 ∧ s.2 ≤ d.pending.length) (fun r => ∃ b, r = some b) ?_ _ (n, 0) ⟨hn, hm, by simp⟩ (by show (9001 - n).toNat < _; omega)
    rintro k ⟨n, i⟩ ⟨hn, hm, hi⟩ ih
    simp only at hn hm hi ih ⊢
    rw [loop2_succ]
    generalize loop2 (m14_overflightref44_Few_B1 d) k = sf at ih ⊢
    unfold m14_overflightref44_Few_B1
    by_cases a1 : i < d.pending.length <;> by_cases a2 : n ≤ 9000
    · have hl := h4 d.pending[i] (List.getElem_mem a1)
      have w1 : IntKind.i64.wrap (n + 1) = n + 1 := wrap_i64 (by omega) (by omega)
      have w2 : IntKind.i64.wrap (n + 1 + (d.pending[i].data.length : Int)) = n + 1 + (d.pending[i].data.length : Int) := wrap_i64 (by omega) (by omega)
      have w3 : IntKind.i64.wrap ((i : Int) + 1) = ((i + 1 : Nat) : Int) := (wrapS (by omega)).trans (by omega)
      obtain ⟨b, hb⟩ := ih (n + 1 + (d.pending[i].data.length : Int), i + 1) (by simp only; omega) (by simp only; omega)
      refine ⟨b, ?_⟩
      have g : d.pending.getD (i : Int).toNat default = d.pending[i] := by simp [a1]
      have c : (i : Int) < (d.pending.length : Int) := by omega
      simp only [jn_eq, c, a2, decide_true, cond_true, g, w1, w2, w3]
      rw [ck_eq (by simp)]; exact hb
    · simp [a1, a2]
    · simp [a1, a2]
    · simp [a1, a2]
  refine up_ex (σ := Int × Nat) (L := fun k s => loop2 (m14_overflightref44_Few_B0 d) k s.1 s.2) (fun s => (9001 - s.1).toNat) (fun s => 0 ≤ s.1 ∧ s.1 ≤ 140737488361232 ∧ s.2 ≤ d.sectors.length) (fun r => ∃ b, r = some b) ?_ _ (0, 0) ⟨by simp, by simp, by simp⟩ (by decide)
  rintro k ⟨n, i⟩ ⟨hn, hm, hi⟩ ih
  simp only at hn hm hi ih ⊢
  rw [loop2_succ]
  generalize loop2 (m14_overflightref44_Few_B0 d) k = sf at ih ⊢
  obtain ⟨b1, hb1⟩ := e1 n hn hm
  unfold m14_overflightref44_Few_B0
  rw [hb1]
  by_cases a1 : i < d.sectors.length <;> by_cases a2 : n ≤ 9000
  · have hl := h2 d.sectors[i] (List.getElem_mem a1)
    have w1 : IntKind.i64.wrap (n + 1) = n + 1 := wrap_i64 (by omega) (by omega)
    have w2 : IntKind.i64.wrap (n + 1 + (d.sectors[i].length : Int)) = n + 1 + (d.sectors[i].length : Int) := wrap_i64 (by omega) (by omega)
    have w3 : IntKind.i64.wrap ((i : Int) + 1) = ((i + 1 : Nat) : Int) := (wrapS (by omega)).trans (by omega)
    obtain ⟨b, hb⟩ := ih (n + 1 + (d.sectors[i].length : Int), i + 1) (by simp only; omega) (by simp only; omega)
    refine ⟨b, ?_⟩
    have g : d.sectors.getD (i : Int).toNat default = d.sectors[i] := by simp [a1]
    have c : (i : Int) < (d.sectors.length : Int) := by omega
    simp only [jn_eq, c, a2, decide_true, cond_true, g, w1, w2, w3]
    rw [ck_eq (by simp)]; exact hb
  · simp [a1, a2]
  · simp [a1, a2]
  · simp [a1, a2]
theorem sm_few {d : XDisk} (h : smXDisk d) : Few' d := ⟨by have := h.1.1; omega, by have := h.2.1.1; omega⟩
theorem m47_eq (d : XDisk) (h : Few' d) : m47_disk_runs d = some (chk d && !d.stopped) := by
  unfold m47_disk_runs; rw [m18_eq d h]; cases chk d <;> simp
end Go.Fx


/- What the operations of the disk of chapter 44 answer. -/
set_option linter.unusedSimpArgs false
set_option linter.unusedVariables false
namespace Go.Fx
open Go Go.RowKit
theorem m48_eq (d : XDisk) (a : Int) : m48_disk_has d a = some (decide (0 ≤ a) && decide (a < (d.sectors.length : Int))) := by
  unfold m48_disk_has; cases h : decide (0 ≤ a) <;> simp
/-- the pairs of a list from its end, below an index -/
def dn (s : List XWrite) : Nat → List (Int × XWrite)
  | 0 => []
  | n + 1 => ((n : Int), s.getD n default) :: dn s n
theorem m68_eq (s : List XWrite) (hl : s.length < 900000) : m68_api_Write__1 s = some (dn s s.length) := by
  unfold m68_api_Write__1
  have main : ∀ (n fuel : Nat), n ≤ s.length → n < fuel → loop1 (m68_api_Write__1_B0 s) fuel ((n : Int) - 1) = some (dn s n) := by
    intro n
    induction n with
    | zero => intro fuel _ hf; obtain ⟨k, rfl⟩ : ∃ k, fuel = k + 1 := ⟨fuel - 1, by omega⟩; rw [loop1_succ]; unfold m68_api_Write__1_B0; simp [dn]
    | succ n ih =>
      intro fuel hn hf; obtain ⟨k, rfl⟩ : ∃ k, fuel = k + 1 := ⟨fuel - 1, by omega⟩
      rw [loop1_succ]
      have := ih k (by omega) (by omega)
      generalize loop1 (m68_api_Write__1_B0 s) k = sf at this ⊢
      unfold m68_api_Write__1_B0
      have e : ((n + 1 : Nat) : Int) - 1 = (n : Int) := by omega
      have w : IntKind.i64.wrap ((n : Int) - 1) = (n : Int) - 1 := wrap_i64 (by omega) (by omega)
      rw [e, w, this]
      have : n < s.length := by omega
      simp [ck_eq, this, yl, dn]
  have w : IntKind.i64.wrap ((s.length : Int) - 1) = (s.length : Int) - 1 := wrap_i64 (by omega) (by omega)
  rw [w]; exact main s.length _ (by omega) (by omega)
/-- the bytes that were written last at a place -/
def lw (a : Int) (l : List XWrite) (z : List UInt8) : List UInt8 := l.foldl (fun z w => if w.at_ = a then w.data else z) z
theorem rng_lw (a : Int) (s : List XWrite) (K : List UInt8 → Option (List UInt8 × Int)) (z : List UInt8) (hK : ∀ v, K v = some (z, 0)) (n : Nat) (hn : n ≤ s.length) (v : List UInt8) :
    rng1 (m27_disk_Read_B0 a (fun v => some (v, 0))) K (dn s n) v = some (lw a (s.take n) z, 0) := by
  induction n with
  | zero => rw [dn, rng1_nil, hK]; rfl
  | succ n ih =>
    have hlt : n < s.length := by omega
    rw [dn, rng1_cons]
    unfold m27_disk_Read_B0
    rw [List.take_add_one, lw, List.foldl_append]
    have g : s[n]? = some s[n] := List.getElem?_eq_getElem hlt
    by_cases h : s[n].at_ = a
    · simp [g, h]
    · simp [g, h]; exact ih (by omega)
theorem m27_eq (d : XDisk) (a : Int) (h : Few' d) : m27_disk_Read d a = some (bif (chk d && !d.stopped) && (decide (0 ≤ a) && decide (a < (d.sectors.length : Int))) then (lw a d.pending (d.sectors.getD a.toNat default), 0) else ([], 440)) := by
  unfold m27_disk_Read
  rw [m47_eq d h, m48_eq]
  cases hc : chk d && !d.stopped
  · simp
  cases ha : (decide (0 ≤ a) && decide (a < (d.sectors.length : Int)))
  · simp
  have hp : d.pending.length < 900000 := by
    have : chk d = true := by revert hc; cases chk d <;> simp
    unfold chk at this; simp at this; omega
  simp only [Bool.and_eq_true, decide_eq_true_eq] at ha
  have := rng_lw a d.pending (fun v => some ((d.sectors.getD a.toNat default), 0)) (d.sectors.getD a.toNat default) (fun _ => rfl) d.pending.length (by omega) []
  rw [List.take_length] at this
  simp only [Option.bind_some, jn_eq, Bool.not_true, cond_false, m53_api_Write_, m68_eq _ hp, ck_eq ha, this, Bool.and_self, cond_true]
/-- the bytes of a sector that begins with some bytes -/
def pad (b : List UInt8) : List UInt8 := b.take 128 ++ (List.replicate 128 (0 : UInt8)).drop b.length
def dsk0 : XDisk := ⟨[], [], 0, false⟩
theorem m23_eq (d : XDisk) (a : Int) (b : List UInt8) (h : Few' d) : m23_disk_Write d a b =
    some (bif (chk d && !d.stopped) && (decide (0 ≤ a) && decide (a < (d.sectors.length : Int))) then
      (bif decide (128 < b.length) then (dsk0, 1) else bif decide (d.pending.length = 4096) then (dsk0, 2) else (⟨d.sectors, d.pending ++ [⟨a, pad b⟩], d.left, d.stopped⟩, 0)) else (dsk0, 440)) := by
  unfold m23_disk_Write
  rw [m47_eq d h, m48_eq]
  cases hc : chk d && !d.stopped
  · simp [dsk0]
  cases ha : (decide (0 ≤ a) && decide (a < (d.sectors.length : Int)))
  · simp [dsk0]
  have hp : d.pending.length ≤ 4096 := by
    have : chk d = true := by revert hc; cases chk d <;> simp
    unfold chk at this; simp at this; omega
  have e1 : (128 < (b.length : Int)) = (128 < b.length) := by apply propext; omega
  have e2 : ((d.pending.length : Int) = 4096) = (d.pending.length = 4096) := by apply propext; omega
  have e3 : m50_api_Write_ d.pending = some d.pending := by unfold m50_api_Write_; rw [ck_eq (by simp; omega)]; simp
  have e4 : m49_api_Write_ d.pending = some d.pending := by unfold m49_api_Write_; rw [ck_eq (by simp)]; simp
  simp only [Option.bind_some, jn_eq, Bool.not_true, cond_false, e1, e2, e3, e4]
  cases decide (128 < b.length)
  · cases decide (d.pending.length = 4096)
    · simp only [cond_false]
      rw [ck_eq (by omega), ck_eq (by simp), ck_eq (by simp; omega)]; simp [pad]
    · simp [dsk0]
  · simp [dsk0]
/-- the sectors after some writes -/
def perf (s : List (List UInt8)) (l : List XWrite) : List (List UInt8) := l.foldl (fun s w => s.set w.at_.toNat w.data) s
theorem perf_len (l : List XWrite) (s : List (List UInt8)) : (perf s l).length = s.length := by
  induction l generalizing s with
  | nil => rfl
  | cons x t ih => show (perf (s.set _ _) t).length = _; rw [ih]; simp
theorem m51_eq (s : List (List UInt8)) (l : List XWrite) (hs : s.length ≤ 5000) (hl : l.length < 5000) (hw : ∀ w ∈ l, 0 ≤ w.at_ ∧ w.at_ < (s.length : Int)) : m51_disk_perform s l = some (perf s l) := by
  unfold m51_disk_perform
  have e : m67_slices_Clonebyte_byte_ s = some s := by unfold m67_slices_Clonebyte_byte_; rw [ck_eq (by simp; omega)]; simp
  rw [e]
  show loop2 _ _ s 0 = _
  refine up_listB (σ := List (List UInt8)) (fun i x => x.length = s.length) (fun _ t x => some (perf x t)) l (by omega) ?_ ?_ (by simp) rfl
  · intro sf x _; unfold m51_disk_perform_B0; simp [perf]
  · intro sf i x y t h1 h2 h3 hx ih; obtain ⟨_, rfl⟩ := List.getElem?_eq_some_iff.1 h2
    have hm := hw l[i] (List.getElem_mem _)
    have := ih (x.set l[i].at_.toNat l[i].data) (by simpa using hx)
    unfold m51_disk_perform_B0
    have c1 : (i : Int) < (l.length : Int) := by omega
    have g : l.getD (i : Int).toNat default = l[i] := by simp [h1]
    simp only [c1, decide_true, cond_true, g, h3]
    rw [ck_eq (by simp), ck_eq (by rw [hx]; exact hm), this]; rfl
theorem chk_props {d : XDisk} (hk : chk d = true) : 1 ≤ d.sectors.length ∧ d.sectors.length ≤ 4096 ∧ d.pending.length ≤ 4096 ∧ -1 ≤ d.left ∧ d.left ≤ 65536 ∧ (∀ w ∈ d.pending, 0 ≤ w.at_ ∧ w.at_ < (d.sectors.length : Int) ∧ w.data.length = 128) ∧ ∀ s ∈ d.sectors, s.length = 128 := by
  unfold chk at hk
  simp only [Bool.not_eq_true', Bool.or_eq_false_iff, decide_eq_false_iff_not, List.any_eq_false] at hk
  obtain ⟨⟨⟨⟨⟨⟨h1, h2⟩, h3⟩, h4⟩, h5⟩, h6⟩, h7⟩ := hk
  refine ⟨by omega, by omega, by omega, by omega, by omega, fun w hw => ?_, fun s hs => ?_⟩
  · have := h6 w hw; simp [wrBad] at this; omega
  · have := h7 s hs; simpa [secBad] using this
theorem perf_all (l : List XWrite) (s : List (List UInt8)) (hs : ∀ x ∈ s, x.length = 128) (hl : ∀ w ∈ l, w.data.length = 128) : ∀ x ∈ perf s l, x.length = 128 := by
  induction l generalizing s with
  | nil => exact hs
  | cons w t ih =>
    refine ih (s.set w.at_.toNat w.data) (fun x hx => ?_) (fun w hw => hl w (by simp [hw]))
    rcases List.mem_or_eq_of_mem_set hx with h | h
    · exact hs x h
    · subst h; exact hl w (by simp)
/-- the torn sector -/
def torn (s : List UInt8) (w : List UInt8) : List UInt8 := w.take 64 ++ s.drop (min w.length 64)
theorem m25_eq (d : XDisk) (h : Few' d) : m25_disk_Sync d = some (bif chk d && !d.stopped then
      (bif decide (0 ≤ d.left) && decide (d.left < (d.pending.length : Int)) then
        (⟨(perf d.sectors (d.pending.take d.left.toNat)).set (d.pending.getD d.left.toNat default).at_.toNat (torn ((perf d.sectors (d.pending.take d.left.toNat)).getD (d.pending.getD d.left.toNat default).at_.toNat default) (d.pending.getD d.left.toNat default).data), [], 0, true⟩, 440)
      else (⟨perf d.sectors d.pending, [], bif decide (0 ≤ d.left) then d.left - (d.pending.length : Int) else d.left, false⟩, 0)) else (dsk0, 440)) := by
  unfold m25_disk_Sync
  rw [m47_eq d h]
  cases hc : chk d && !d.stopped
  · simp [dsk0]
  have hk : chk d = true := by revert hc; cases chk d <;> simp
  obtain ⟨p1, p2, p3, p4, p5, p6, p7⟩ := chk_props hk
  have hst : d.stopped = false := by revert hc; cases d.stopped <;> simp
  simp only [Option.bind_some, jn_eq, Bool.not_true, cond_false, cond_true]
  cases hL : decide (0 ≤ d.left) && decide (d.left < (d.pending.length : Int))
  · have e : m51_disk_perform d.sectors d.pending = some (perf d.sectors d.pending) := m51_eq _ _ (by omega) (by omega) (fun w hw => ⟨(p6 w hw).1, (p6 w hw).2.1⟩)
    rw [e]
    cases h0 : decide (0 ≤ d.left)
    · simp
    · have h1 : decide (d.left < (d.pending.length : Int)) = false := by rw [h0] at hL; simpa using hL
      have w : IntKind.i64.wrap (d.left - (d.pending.length : Int)) = d.left - (d.pending.length : Int) := wrap_i64 (by omega) (by omega)
      simp [h1, w]
  · simp only [Bool.and_eq_true, decide_eq_true_eq] at hL
    obtain ⟨l0, l1⟩ := hL
    have hn : d.left.toNat < d.pending.length := by omega
    have hm := p6 _ (List.getElem_mem hn)
    have e : m51_disk_perform d.sectors (d.pending.take d.left.toNat) = some (perf d.sectors (d.pending.take d.left.toNat)) := m51_eq _ _ (by omega) (by simp; omega) (fun w hw => ⟨(p6 w (List.mem_of_mem_take hw)).1, (p6 w (List.mem_of_mem_take hw)).2.1⟩)
    have g : d.pending.getD d.left.toNat default = d.pending[d.left.toNat] := by simp [hn]
    simp only [l0, l1, decide_true, cond_true, g, List.drop_zero, Nat.sub_zero, e]
    have hlen : (perf d.sectors (d.pending.take d.left.toNat)).length = d.sectors.length := perf_len _ _
    have hi : d.pending[d.left.toNat].at_.toNat < (perf d.sectors (d.pending.take d.left.toNat)).length := by rw [hlen]; omega
    have h128 := perf_all (d.pending.take d.left.toNat) d.sectors p7 (fun w hw => (p6 w (List.mem_of_mem_take hw)).2.2) _ (List.getElem_mem hi)
    have g2 : (perf d.sectors (d.pending.take d.left.toNat)).getD d.pending[d.left.toNat].at_.toNat default = (perf d.sectors (d.pending.take d.left.toNat))[d.pending[d.left.toNat].at_.toNat] := by simp [hi]
    have e5 : ∀ x : List UInt8, x.length = 128 → m52_slices_Clonebyte_byte_ x = some x := fun x hx => by unfold m52_slices_Clonebyte_byte_; rw [ck_eq (by simp; omega)]; simp
    have hb : 0 ≤ d.pending[d.left.toNat].at_ ∧ d.pending[d.left.toNat].at_ < ((perf d.sectors (d.pending.take d.left.toNat)).length : Int) := by rw [hlen]; exact ⟨hm.1, hm.2.1⟩
    have hc2 : d.left ≤ (d.pending.length : Int) := by omega
    simp only [Option.bind_some, hc2, and_self, ck_True, hb, and_true, g2, e5 _ h128]
    rw [ck_eq (by omega), ck_eq (by omega)]
    simp [torn]
end Go.Fx


/- Facts about disks of chapter 44: valid disks stay valid, what is read is what was performed. -/
set_option linter.unusedSimpArgs false
set_option linter.unusedVariables false
namespace Go.Fx
open Go Go.RowKit
theorem lw_append (a : Int) (l : List XWrite) (w : XWrite) (z : List UInt8) : lw a (l ++ [w]) z = if w.at_ = a then w.data else lw a l z := by simp [lw, List.foldl_append]
theorem perf_append (s : List (List UInt8)) (l m : List XWrite) : perf s (l ++ m) = perf (perf s l) m := by simp [perf, List.foldl_append]
theorem lw_perf (k : Nat) (l : List XWrite) (s : List (List UInt8)) (hk : k < s.length) (hw : ∀ w ∈ l, 0 ≤ w.at_ ∧ w.at_ < (s.length : Int)) :
    lw (k : Int) l (s.getD k default) = (perf s l).getD k default := by
  induction l generalizing s with
  | nil => rfl
  | cons w t ih =>
    show lw (k : Int) t (if w.at_ = (k : Int) then w.data else s.getD k default) = (perf (s.set w.at_.toNat w.data) t).getD k default
    rw [← ih (s.set w.at_.toNat w.data) (by simpa using hk) (fun x hx => by rw [List.length_set]; exact hw x (by simp [hx]))]
    congr 1
    have h0 := hw w (by simp)
    by_cases h : w.at_ = (k : Int)
    · have e : w.at_.toNat = k := by omega
      simp [h, hk]
    · have e : w.at_.toNat ≠ k := by omega
      simp [h, List.getElem?_set_ne e]
theorem lw_len (a : Int) (l : List XWrite) (z : List UInt8) (hz : z.length = 128) (hl : ∀ w ∈ l, w.data.length = 128) : (lw a l z).length = 128 := by
  induction l generalizing z with
  | nil => exact hz
  | cons w t ih =>
    refine ih (if w.at_ = a then w.data else z) ?_ (fun x hx => hl x (by simp [hx]))
    split
    · exact hl w (by simp)
    · exact hz
theorem pad_len {b : List UInt8} (h : b.length ≤ 128) : (pad b).length = 128 := by unfold pad; simp; omega
theorem pad_take {b : List UInt8} (h : b.length ≤ 128) : (pad b).take b.length = b := by unfold pad; rw [List.take_of_length_le h]; simp
theorem pad_full {b : List UInt8} (h : b.length = 128) : pad b = b := by unfold pad; rw [List.take_of_length_le (by omega), List.drop_eq_nil_of_le (by simp; omega)]; simp
theorem chk_of {d : XDisk} (h1 : 1 ≤ d.sectors.length) (h2 : d.sectors.length ≤ 4096) (h3 : d.pending.length ≤ 4096) (h4 : -1 ≤ d.left) (h5 : d.left ≤ 65536) (h6 : ∀ w ∈ d.pending, 0 ≤ w.at_ ∧ w.at_ < (d.sectors.length : Int) ∧ w.data.length = 128) (h7 : ∀ s ∈ d.sectors, s.length = 128) : chk d = true := by
  unfold chk
  simp only [Bool.not_eq_true', Bool.or_eq_false_iff, decide_eq_false_iff_not, List.any_eq_false]
  refine ⟨⟨⟨⟨⟨⟨by omega, by omega⟩, by omega⟩, by omega⟩, by omega⟩, fun w hw => ?_⟩, fun s hs => ?_⟩
  · have := h6 w hw; simp [wrBad, this.2.2]; omega
  · simp [secBad, h7 s hs]
/-- a write -/
def wr (d : XDisk) (a : Int) (b : List UInt8) : XDisk := ⟨d.sectors, d.pending ++ [⟨a, pad b⟩], d.left, d.stopped⟩
theorem chk_wr {d : XDisk} {a : Int} {b : List UInt8} (h : chk d = true) (h0 : 0 ≤ a) (h1 : a < (d.sectors.length : Int)) (hp : d.pending.length ≠ 4096) (hb : b.length ≤ 128) : chk (wr d a b) = true := by
  obtain ⟨p1, p2, p3, p4, p5, p6, p7⟩ := chk_props h
  refine chk_of p1 p2 (by simp [wr]; omega) p4 p5 (fun w hw => ?_) p7
  simp only [wr, List.mem_append, List.mem_singleton] at hw
  rcases hw with hw | hw
  · exact p6 w hw
  · subst hw; exact ⟨h0, h1, pad_len hb⟩
theorem wr_ok {d : XDisk} {a : Int} {b : List UInt8} (hf : Few' d) (h : chk d = true) (hs : d.stopped = false) (h0 : 0 ≤ a) (h1 : a < (d.sectors.length : Int)) (hp : d.pending.length ≠ 4096) (hb : b.length ≤ 128) : m23_disk_Write d a b = some (wr d a b, 0) := by
  rw [m23_eq d a b hf]
  have e1 : decide (128 < b.length) = false := by simp; omega
  simp [h, hs, h0, h1, hp, e1, wr]
theorem rd_ok {d : XDisk} {k : Nat} (hf : Few' d) (h : chk d = true) (hs : d.stopped = false) (h1 : k < d.sectors.length) : m27_disk_Read d (k : Int) = some ((perf d.sectors d.pending).getD k default, 0) := by
  obtain ⟨p1, p2, p3, p4, p5, p6, p7⟩ := chk_props h
  rw [m27_eq d k hf, ← lw_perf k d.pending d.sectors h1 (fun w hw => ⟨(p6 w hw).1, (p6 w hw).2.1⟩)]
  simp [h, hs, h1]
theorem chk_few {d : XDisk} (h : chk d = true) : Few' d := by
  obtain ⟨p1, p2, p3, p4, p5, p6, p7⟩ := chk_props h
  exact ⟨by omega, by omega⟩
/-- the disk after a sync that does not stop -/
def snc (d : XDisk) : XDisk := ⟨perf d.sectors d.pending, [], bif decide (0 ≤ d.left) then d.left - (d.pending.length : Int) else d.left, false⟩
theorem chk_snc {d : XDisk} (h : chk d = true) (hn : ¬ (0 ≤ d.left ∧ d.left < (d.pending.length : Int))) : chk (snc d) = true := by
  obtain ⟨p1, p2, p3, p4, p5, p6, p7⟩ := chk_props h
  refine chk_of (by simp [snc, perf_len]; omega) (by simp [snc, perf_len]; omega) (by simp [snc]) ?_ ?_ (by simp [snc]) ?_
  · by_cases h0 : 0 ≤ d.left <;> simp [snc, h0] <;> omega
  · by_cases h0 : 0 ≤ d.left <;> simp [snc, h0] <;> omega
  · exact perf_all _ _ p7 fun w hw => (p6 w hw).2.2
/-- the disk after a sync that stops -/
def stp (d : XDisk) : XDisk := ⟨(perf d.sectors (d.pending.take d.left.toNat)).set (d.pending.getD d.left.toNat default).at_.toNat (torn ((perf d.sectors (d.pending.take d.left.toNat)).getD (d.pending.getD d.left.toNat default).at_.toNat default) (d.pending.getD d.left.toNat default).data), [], 0, true⟩
theorem sn_ok {d : XDisk} (h : chk d = true) (hs : d.stopped = false) : m25_disk_Sync d = some (bif decide (0 ≤ d.left) && decide (d.left < (d.pending.length : Int)) then (stp d, 440) else (snc d, 0)) := by
  rw [m25_eq d (chk_few h)]; simp [h, hs, stp, snc]
end Go.Fx


/- DiskTogether: the plain law. -/
set_option linter.unusedSimpArgs false
set_option linter.unusedVariables false
namespace Go.Fx
open Go Go.RowKit
/-- the write of an act -/
def aw (n : Nat) (a : XAct) : XWrite := ⟨((a.at_.toNat % n : Nat) : Int), pad [a.byte]⟩
/-- one by one -/
def runA (s : List (List UInt8)) (left : Int) : List XWrite → XDisk × Int
  | [] => (⟨s, [], left, false⟩, 0)
  | w :: t => if left = 0 then (stp ⟨s, [w], 0, false⟩, 440) else runA (s.set w.at_.toNat w.data) (if 0 ≤ left then left - 1 else left) t
/-- together -/
def runB (d : XDisk) : XDisk × Int := bif decide (0 ≤ d.left) && decide (d.left < (d.pending.length : Int)) then (stp d, 440) else (snc d, 0)
theorem runA_eq (l : List XWrite) (s : List (List UInt8)) (left : Int) (hl : -1 ≤ left) : runA s left l = runB ⟨s, l, left, false⟩ := by
  induction l generalizing s left with
  | nil => unfold runA runB snc; by_cases h : 0 ≤ left
           · have h1 : ¬ left < 0 := by omega
             simp [h, h1, perf]
           · simp [h, perf]
  | cons w t ih =>
    unfold runA
    by_cases h0 : left = 0
    · subst h0; simp [runB, stp, perf]
    · rw [if_neg h0, ih _ _ (by split <;> omega)]
      by_cases hp : 0 ≤ left
      · rw [if_pos hp]
        obtain ⟨n, rfl⟩ : ∃ n : Nat, left = ((n + 1 : Nat) : Int) := ⟨(left - 1).toNat, by omega⟩
        have e1 : ((n + 1 : Nat) : Int) - 1 = (n : Int) := by omega
        rw [e1]
        by_cases hn : n < t.length
        · simp [runB, hn, stp, perf]
          have : (n : Int) + 1 < (t.length : Int) + 1 := by omega
          have h2 : (0 : Int) ≤ (n : Int) + 1 := by omega
          have h3 : ((n : Int) + 1).toNat = n + 1 := by omega
          simp [this, h2, h3, hn]
        · have h2 : (0 : Int) ≤ (n : Int) + 1 := by omega
          have h4 : ¬ (n : Int) + 1 < (t.length : Int) + 1 := by omega
          simp [runB, hn, snc, perf, h2, h4]; omega
      · rw [if_neg hp]; simp [runB, hp, snc, perf]
theorem tm (a n : Nat) (h : 0 < n) : ((a : Int).tmod (n : Int)) = ((a % n : Nat) : Int) := by
  rw [Int.tmod_eq_emod_of_nonneg (by omega)]; omega
theorem togB (d : XDisk) (sc : List XAct) (x : XDisk) (e : Int) (hc : chk d = true) (hs : d.stopped = false) (hp : d.pending = []) (h20 : sc.length ≤ 20) :
    loop5 (m6_overflightlaw44_DiskTogether_B1 d sc e x.sectors x.pending x.left x.stopped) (((sc.length : Int) - 0).toNat + 1) 0 d.sectors d.pending d.left d.stopped
      = (m25_disk_Sync ⟨d.sectors, sc.map (aw d.sectors.length), d.left, false⟩).bind fun r => bif decide (e = r.2) then m17_overflightref44_Same x r.1 else some false := by
  obtain ⟨p1, p2, p3, p4, p5, p6, p7⟩ := chk_props hc
  have := up_list (σ := List XWrite) (L := fun n i p => loop5 (m6_overflightlaw44_DiskTogether_B1 d sc e x.sectors x.pending x.left x.stopped) n i d.sectors p d.left false)
    (fun i p => p.length = i ∧ chk ⟨d.sectors, p, d.left, false⟩ = true)
    (fun _ t p => (m25_disk_Sync ⟨d.sectors, p ++ t.map (aw d.sectors.length), d.left, false⟩).bind fun r => bif decide (e = r.2) then m17_overflightref44_Same x r.1 else some false)
    sc (by omega) ?_ ?_ (((sc.length : Int) - 0).toNat + 1) [] (by simp) ⟨rfl, by rw [← hp, ← hs]; exact hc⟩
  · rw [hp, hs]; simpa using this
  · rintro n p ⟨h1, h2⟩
    show loop5 _ (n + 1) _ _ _ _ _ = _
    rw [loop5_succ]
    unfold m6_overflightlaw44_DiskTogether_B1
    simp
  · rintro n i p a t h1 h2 h3 ⟨h4, h5⟩ ih
    show loop5 _ (n + 1) _ _ _ _ _ = _
    rw [loop5_succ]
    generalize loop5 _ n = sf at ih ⊢
    unfold m6_overflightlaw44_DiskTogether_B1
    have ga : sc.getD (i : Int).toNat default = a := by rw [Int.toNat_natCast]; exact getD_of h2
    have hm := Nat.mod_lt a.at_.toNat (show 0 < d.sectors.length by omega)
    have hat : (a.at_.toNat : Int).tmod (d.sectors.length : Int) = ((a.at_.toNat % d.sectors.length : Nat) : Int) := tm _ _ (by omega)
    have hw := wr_ok (b := [a.byte]) (chk_few h5) h5 rfl (a := ((a.at_.toNat % d.sectors.length : Nat) : Int)) (by omega) (by show _ < (d.sectors.length : Int); omega) (by show p.length ≠ 4096; omega) (by simp)
    have hc' := chk_wr (b := [a.byte]) h5 (a := ((a.at_.toNat % d.sectors.length : Nat) : Int)) (by omega) (by show _ < (d.sectors.length : Int); omega) (by show p.length ≠ 4096; omega) (by simp)
    have c1 : (i : Int) < (sc.length : Int) := by omega
    simp only [c1, decide_true, cond_true, ga, hat]
    rw [ck_eq (by simp), ck_eq (by omega), ck_eq (by simp), hw]
    simp only [Option.bind_some, ne_eq, not_true_eq_false, decide_false, cond_false, h3]
    have := ih (p ++ [aw d.sectors.length a]) ⟨by simp [h4], hc'⟩
    simp only [wr]
    refine this.trans ?_
    simp
theorem togA (d : XDisk) (sc : List XAct) (n : Nat) (hn : n = d.sectors.length) (hc : chk d = true) (h20 : sc.length ≤ 20) :
    ∀ (t : List XAct) (i fuel : Nat) (s : List (List UInt8)) (left : Int), sc.drop i = t → i ≤ sc.length → t.length + 1 < fuel → chk ⟨s, [], left, false⟩ = true → s.length = n →
      loop6 (m6_overflightlaw44_DiskTogether_B0 d sc) fuel 0 (i : Int) s [] left false =
        loop5 (m6_overflightlaw44_DiskTogether_B1 d sc (runA s left (t.map (aw n))).2 (runA s left (t.map (aw n))).1.sectors (runA s left (t.map (aw n))).1.pending (runA s left (t.map (aw n))).1.left (runA s left (t.map (aw n))).1.stopped) (((sc.length : Int) - 0).toNat + 1) 0 d.sectors d.pending d.left d.stopped := by
  intro t
  induction t with
  | nil =>
    intro i fuel s left hd hi hf hk hs
    obtain ⟨k, rfl⟩ : ∃ k, fuel = k + 1 := ⟨fuel - 1, by omega⟩
    have : i = sc.length := by have := congrArg List.length hd; simp at this; omega
    subst this
    rw [loop6_succ]; unfold m6_overflightlaw44_DiskTogether_B0
    simp [runA]
  | cons a t ih =>
    intro i fuel s left hd hi hf hk hs
    obtain ⟨k, rfl⟩ : ∃ k, fuel = k + 2 := ⟨fuel - 2, by simp at hf; omega⟩
    have hlt : i < sc.length := by have := congrArg List.length hd; simp at this; omega
    have hx : sc[i]? = some a := by rw [← List.head?_drop, hd]; rfl
    have hd' : sc.drop (i + 1) = t := by rw [← List.drop_drop, hd]; rfl
    obtain ⟨p1, p2, p3, p4, p5, p6, p7⟩ := chk_props hk
    simp only at p1 p2 p4 p5
    rw [loop6_succ]
    have IH := ih (i + 1) (k + 1)
    have IZ : ∀ (z : XDisk), loop6 (m6_overflightlaw44_DiskTogether_B0 d sc) (k + 1) 440 ((i : Int) + 1) z.sectors z.pending z.left z.stopped = loop5 (m6_overflightlaw44_DiskTogether_B1 d sc 440 z.sectors z.pending z.left z.stopped) (((sc.length : Int) - 0).toNat + 1) 0 d.sectors d.pending d.left d.stopped := by
      intro z; rw [loop6_succ]; unfold m6_overflightlaw44_DiskTogether_B0
      by_cases h : (i : Int) + 1 < (sc.length : Int) <;> simp [h]
    generalize loop6 (m6_overflightlaw44_DiskTogether_B0 d sc) (k + 1) = sf at IH IZ ⊢
    unfold m6_overflightlaw44_DiskTogether_B0
    have ga : sc.getD (i : Int).toNat default = a := by rw [Int.toNat_natCast]; exact getD_of hx
    have hm := Nat.mod_lt a.at_.toNat (show 0 < n by omega)
    have hat : (a.at_.toNat : Int).tmod (d.sectors.length : Int) = ((a.at_.toNat % n : Nat) : Int) := by rw [hn]; exact tm _ _ (by omega)
    have hw := wr_ok (b := [a.byte]) (chk_few hk) hk rfl (a := ((a.at_.toNat % n : Nat) : Int)) (by omega) (by show _ < (s.length : Int); omega) (by simp) (by simp)
    have hc' := chk_wr (b := [a.byte]) hk (a := ((a.at_.toNat % n : Nat) : Int)) (by omega) (by show _ < (s.length : Int); omega) (by simp) (by simp)
    have c1 : (i : Int) < (sc.length : Int) := by omega
    have w1 : IntKind.i64.wrap ((i : Int) + 1) = (i : Int) + 1 := wrap_i64 (by omega) (by omega)
    simp only [jn_eq, c1, decide_true, cond_true, ga, hat]
    rw [ck_eq (by simp), ck_eq (by omega), ck_eq (by simp), hw]
    simp only [Option.bind_some, ne_eq, not_true_eq_false, decide_false, cond_false, w1, sn_ok hc' rfl]
    by_cases h0 : left = 0
    · subst h0
      simp only [wr, List.nil_append, List.length_singleton, runA, List.map_cons, if_true]
      exact IZ (stp ⟨s, [aw n a], 0, false⟩)
    · have e : (decide (0 ≤ (wr ⟨s, [], left, false⟩ ((a.at_.toNat % n : Nat) : Int) [a.byte]).left) && decide ((wr ⟨s, [], left, false⟩ ((a.at_.toNat % n : Nat) : Int) [a.byte]).left < ((wr ⟨s, [], left, false⟩ ((a.at_.toNat % n : Nat) : Int) [a.byte]).pending.length : Int))) = false := by
        show (decide (0 ≤ left) && decide (left < ((1 : Nat) : Int))) = false
        simp; omega
      have hsn := chk_snc hc' (by intro h; have h' : 0 ≤ left ∧ left < ((1 : Nat) : Int) := h; omega)
      simp only [e, cond_false]
      have e2 : snc (wr ⟨s, [], left, false⟩ ((a.at_.toNat % n : Nat) : Int) [a.byte]) = ⟨s.set (aw n a).at_.toNat (aw n a).data, [], if 0 ≤ left then left - 1 else left, false⟩ := by
        by_cases h : 0 ≤ left <;> simp [snc, wr, perf, aw, h]
      rw [e2] at hsn ⊢
      simp only [List.map_cons, runA, if_neg h0]
      exact IH _ _ hd' (by omega) (by simp at hf ⊢; omega) hsn (by simp [hs])
theorem DiskTogether_law (d : XDisk) (script : List XAct) (hd : smXDisk d) (_ : SmL smXAct script) : m6_overflightlaw44_DiskTogether d script = some true := by
  obtain ⟨f, hb⟩ := m14_tot d hd.1.1 (fun s hs => (hd.1.2 s hs).1) hd.2.1.1 (fun w hw => (hd.2.1.2 w hw).2.1)
  have hf := sm_few hd
  unfold m6_overflightlaw44_DiskTogether
  rw [sane_eq, hb]
  simp only [Option.bind_some, jn_eq, Bool.not_true, cond_false]
  cases f
  · simp
  simp only [Bool.not_true, cond_false]
  by_cases h20 : script.length ≤ 20
  case neg => have e : decide (20 < (script.length : Int)) = true := by simp; omega
              simp [e]
  have e20 : decide (20 < (script.length : Int)) = false := by simp; omega
  by_cases hp : d.pending = []
  case neg => have e : decide (0 < (d.pending.length : Int)) = true := by simp; exact List.length_pos_iff.2 hp
              simp only [e20, e, cond_false, cond_true]
  have ep : decide (0 < (d.pending.length : Int)) = false := by simp [hp]
  simp only [e20, ep, cond_false]
  by_cases hs0 : (d.sectors.length : Int) = 0
  · simp [hs0]
  rw [m18_eq d hf]
  cases hc : chk d
  · simp
  simp only [hs0, decide_false, cond_false, cond_true, Option.bind_some, ne_eq, not_true_eq_false]
  cases hs : d.stopped
  case true => simp
  simp only [cond_false]
  have hk : chk ⟨d.sectors, [], d.left, false⟩ = true := by rw [← hp, ← hs]; exact hc
  obtain ⟨p1, p2, p3, p4, p5, p6, p7⟩ := chk_props hc
  have A := togA d script _ rfl hc h20 script 0 1000000 d.sectors d.left rfl (by omega) (by omega) hk rfl
  rw [hp]
  show loop6 (m6_overflightlaw44_DiskTogether_B0 d script) 1000000 0 ((0 : Nat) : Int) d.sectors [] d.left false = _
  rw [A]
  have B := togB d script (runA d.sectors d.left (script.map (aw d.sectors.length))).1 (runA d.sectors d.left (script.map (aw d.sectors.length))).2 hc hs hp h20
  refine B.trans ?_
  have hkk : chk ⟨d.sectors, script.map (aw d.sectors.length), d.left, false⟩ = true := by
    refine chk_of p1 p2 (by simp; omega) p4 p5 (fun w hw => ?_) p7
    simp only [List.mem_map] at hw
    obtain ⟨a, _, rfl⟩ := hw
    have := Nat.mod_lt a.at_.toNat (show 0 < d.sectors.length by omega)
    exact ⟨by simp only [aw]; omega, by simp only [aw]; omega, pad_len (by simp)⟩
  rw [sn_ok hkk rfl]
  have R := runA_eq (script.map (aw d.sectors.length)) d.sectors d.left p4
  have Q : (runA d.sectors d.left (script.map (aw d.sectors.length))) = bif decide (0 ≤ d.left) && decide (d.left < ((script.map (aw d.sectors.length)).length : Int)) then (stp ⟨d.sectors, script.map (aw d.sectors.length), d.left, false⟩, 440) else (snc ⟨d.sectors, script.map (aw d.sectors.length), d.left, false⟩, 0) := R
  rw [Q]
  simp only [Option.bind_some, decide_true, cond_true]
  refine m17_refl _ ?_
  cases decide (0 ≤ d.left) && decide (d.left < ((script.map (aw d.sectors.length)).length : Int))
  · exact ⟨by simp [snc, perf_len]; omega, by simp [snc]⟩
  · exact ⟨by simp [stp, perf_len]; omega, by simp [stp]⟩
end Go.Fx


namespace Go.Proofs.Ytegomkljijgjjaa.lawDiskTogether
open Go Go.Proofs Go.ChangeShapes Go.WideShapes Go.ChangeAt Go.RowKit Go.Fx
open Go.ChangeMaps (open_string shut_string)
set_option linter.unusedVariables false
set_option maxRecDepth 100000
theorem own : ownKnob Try.prog.godebug = none := by kernel_rfl
theorem laidOut : laidOutB Try.prog = true := by kernel_rfl
set_option maxRecDepth 100000 in
set_option maxHeartbeats 1000000 in
theorem lifted (os : Os) (started : os.Started) (H : Type) (enc : TypeId × Value → H) :
    ReturnsInHanded {} Try.checked os 6 .any (Rows.diskTogetherSpec.pre6 enc Try.prog Try.f6 Rows.diskTogetherRow.domain false) (Rows.diskTogetherSpec.post enc Try.prog Try.f6 false true false false) := by
  refine returnsInHanded_of_change_sized (C := Try.checked) own started (by kernel_rfl) Try.func6
    (ChangeSpec.witness6 (enc := enc) (C := Try.checked) false ⟨#[], #[.agg #[(.slice none 0 0), (.slice none 0 0), (.int .i64 0), (.bool false)], (.slice none 0 0)], []⟩ 8 (by kernel_rfl) (by kernel_rfl) (by kernel_rfl) (by kernel_rfl)) ?_
  intro W base args ds gs before hval0 hW hcnd hsz _
  have hval : ∀ (j : Nat) t v, Try.f6.params[j]? = some t → args[j]? = some v → Value.okWide Try.prog W .any base t v := hval0
  have hW' := hW
  obtain ⟨p, q, hA0, hV, rfl, hfz, hnd⟩ := hW
  have hA : DataW.TrodAll enc Try.prog W 0 (fun _ => true) true Try.f6.params.toList args.toList ds p := hA0
  rw [Try.params6] at hA hval
  obtain ⟨v0, vs0, d0, ds0, p0, q0, hargs, rfl, rfl, h0, r0⟩ := trodAll_cons hA
  obtain ⟨v1, vs1, d1, ds1, p1, q1, rfl, rfl, rfl, h1, r1⟩ := trodAll_cons r0
  obtain ⟨rfl, rfl, rfl⟩ := trodAll_nil r1
  obtain rfl : args = #[v0, v1] := by cases args; simp_all
  obtain ⟨rfl, rfl⟩ := trodVars_none hV
  have k0 := h0
  have lt0 : ∀ x ∈ p0, x.block < W.heap.size := by obtain ⟨m, hm⟩ := k0; exact DataW.trod_lt m _ _ _ hm
  obtain ⟨fu0, hf0⟩ := h0
  obtain ⟨d, rr0, sm0⟩ := rd25.2 _ _ _ hf0
  replace sm0 := sm0 (fun n hn => by have := List.all_eq_true.1 hsz n (DataW.weights_mem_each (j := 0) (t := 25) rfl rfl n hn); simpa using this)
  obtain ⟨⟨cs0⟩, rfl, _⟩ := okWide_struct Try.underlying25 (hval 0 25 v0 rfl rfl)
  replace rr0 : rXDisk.rd W [] cs0 d := rr0
  obtain ⟨_, _, rfl, ⟨a_d_sectors, c_d_sectors, rfl, f_d_sectors⟩, ⟨_, _, rfl, ⟨a_d_pending, c_d_pending, rfl, f_d_pending⟩, ⟨_, _, rfl, ⟨rfl, r_d_left⟩, rfl⟩⟩⟩ := rr0
  have k1 := h1
  have lt1 : ∀ x ∈ p1, x.block < W.heap.size := by obtain ⟨m, hm⟩ := k1; exact DataW.trod_lt m _ _ _ hm
  obtain ⟨fu1, hf1⟩ := h1
  obtain ⟨script, rr1, sm1⟩ := rd35.2 _ _ _ hf1
  replace sm1 := sm1 (fun n hn => by have := List.all_eq_true.1 hsz n (DataW.weights_mem_each (j := 1) (t := 35) rfl rfl n hn); simpa using this)
  obtain ⟨b1, l1, c1, rfl⟩ := okWide_slice Try.underlying35 (hval 1 35 v1 rfl rfl)
  replace rr1 : (rSl rXAct).rd W [] [.slice b1 l1 c1] script := rr1
  obtain ⟨a_script, c_script, e1, f_script⟩ := un_sl rr1
  simp only [Value.slice.injEq] at e1
  obtain ⟨rfl, rfl, rfl⟩ := e1
  have hm : m6_overflightlaw44_DiskTogether d script = some true := DiskTogether_law _ _ sm0 sm1
  have hc := Fn.calls (c6_overflightlaw44_DiskTogether (d := d) (script := script) (w := W) (O := []) (by simp) f_d_sectors f_d_pending r_d_left f_script hm)
  clear hA0 hval0
  refine Calls.mono hc ?_
  rintro e W' ⟨v, rfl, bel, hv⟩
  obtain rfl : v = .bool true := hv
  exact ⟨_, rfl, _, _, _, [], _, [], hW', trodAll_mk1 (shut_bool Try.underlying4 _), (trodAll_cons_mk (Below.trod laidOut (by kernel_rfl) (of_decide_eq_true (by kernel_rfl)) k0 bel lt0) (trodAll_cons_mk (Below.trod laidOut (by kernel_rfl) (of_decide_eq_true (by kernel_rfl)) k1 bel lt1) trodAll_mk0)), rfl, bel.frame _, fun h => by cases h⟩
theorem over : Rows.diskTogetherRow.holds Try.pinned (OpenSpec.ofChange Rows.diskTogetherSpec) :=
  OpenClaim.holds_of_wide 6 Try.f6 rfl rfl rfl rfl rfl rfl rfl ⟨rfl, rfl, rfl, rfl, rfl⟩ rfl rfl rfl rfl rfl (by kernel_rfl) Try.func6 (by kernel_rfl)
    (of_decide_eq_true (by kernel_rfl)) (by unfold Func.isWrapper; first | (rw [if_pos (by decide +kernel)]; kernel_rfl) | (rw [if_neg (by decide +kernel)]; exact ⟨rfl, rfl⟩))
    (fun os started H enc _ => lifted os started H enc)
theorem proved : Rows.DiskTogetherSaid := over
end Go.Proofs.Ytegomkljijgjjaa.lawDiskTogether

