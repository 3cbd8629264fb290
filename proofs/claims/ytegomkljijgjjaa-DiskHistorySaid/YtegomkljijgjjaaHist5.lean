/- Part 5 of the proof: for every list of writes and syncs and every number, the law DiskHistory of chapter 44 returns true. -/
import Derived.Test.YtegomkljijgjjaaHist4
set_option linter.unusedVariables false
set_option linter.unusedSimpArgs false
set_option maxRecDepth 100000
set_option maxHeartbeats 0
namespace Go.Fx
open Go Go.RowKit Go.Proofs
def m4_overflightlaw44_DiskHistory_B1 (left : UInt8) (waiting_1 : List XAct) (room_1 : Int) (arr_3 : List UInt8) (k120 : (List XAct) → Int → (List UInt8) → (List UInt8) → (List UInt8) → (List (List UInt8)) → (List XWrite) → Int → Bool → Option Bool) (sync_1 : XDisk × Int) (sf340 : Int → (List UInt8) → (List UInt8) → Option Bool) (k_1 : Int) (arr_7 : List UInt8) (arr_8 : List UInt8) : Option Bool :=
  jn (fun (v_10 : Bool) =>
    bif v_10 then
      ck ((0 : Int) ≤ k_1 ∧ k_1 < (waiting_1.length : Int)) <|
      ck ((0 : Int) ≤ k_1 ∧ k_1 < (waiting_1.length : Int)) <|
      ck ((0 : Int) ≤ ((UInt8.ofNat ((((waiting_1.getD k_1.toNat default).at_).toNat : Int).tmod 4).toNat).toNat : Int) ∧ ((UInt8.ofNat ((((waiting_1.getD k_1.toNat default).at_).toNat : Int).tmod 4).toNat).toNat : Int) < (arr_8.length : Int)) <|
      bif (decide (k_1 < room_1)) then
        ck ((0 : Int) ≤ k_1 ∧ k_1 < (waiting_1.length : Int)) <|
        ck ((0 : Int) ≤ k_1 ∧ k_1 < (waiting_1.length : Int)) <|
        ck ((0 : Int) ≤ ((UInt8.ofNat ((((waiting_1.getD k_1.toNat default).at_).toNat : Int).tmod 4).toNat).toNat : Int) ∧ ((UInt8.ofNat ((((waiting_1.getD k_1.toNat default).at_).toNat : Int).tmod 4).toNat).toNat : Int) < (arr_7.length : Int)) <|
        sf340 (IntKind.wrap .i64 (k_1 + 1)) (arr_7.set ((UInt8.ofNat ((((waiting_1.getD k_1.toNat default).at_).toNat : Int).tmod 4).toNat).toNat : Int).toNat ((waiting_1.getD k_1.toNat default).byte)) (arr_8.set ((UInt8.ofNat ((((waiting_1.getD k_1.toNat default).at_).toNat : Int).tmod 4).toNat).toNat : Int).toNat ((waiting_1.getD k_1.toNat default).byte))
      else
        sf340 (IntKind.wrap .i64 (k_1 + 1)) arr_7 (arr_8.set ((UInt8.ofNat ((((waiting_1.getD k_1.toNat default).at_).toNat : Int).tmod 4).toNat).toNat : Int).toNat ((waiting_1.getD k_1.toNat default).byte))
    else
      bif (decide (room_1 < (waiting_1.length : Int))) then
        bif (decide (sync_1.2 = 440)) then
          bif sync_1.1.stopped then
            (m20_disk_Restart sync_1.1).bind fun restart_1 =>
            ck (arr_8.length = 4) <|
            ck (arr_7.length = 4) <|
            (m26_overflightlaw44_holds restart_1 arr_8 arr_7).bind fun holds_2 =>
            some holds_2
          else
            some false
        else
          some false
      else
        bif (decide (sync_1.2 ≠ 0)) then
          some false
        else
          ck (arr_3.length = 4) <|
          ck (arr_3.length = 4) <|
          (m26_overflightlaw44_holds sync_1.1 arr_3 arr_3).bind fun holds_3 =>
          bif (!holds_3) then
            some false
          else
            k120 [] (IntKind.wrap .i64 (room_1 - (waiting_1.length : Int))) arr_7 arr_8 arr_3 sync_1.1.sectors sync_1.1.pending sync_1.1.left sync_1.1.stopped)
  (fun k352 =>
    bif (decide (k_1 < (waiting_1.length : Int))) then
      k352 (decide (k_1 ≤ room_1))
    else
      k352 false)

def m4_overflightlaw44_DiskHistory_B0 (script : List XAct) (left : UInt8) (sf97 : (List XAct) → Int → Int → (List UInt8) → (List UInt8) → (List UInt8) → (List (List UInt8)) → (List XWrite) → Int → Bool → Option Bool) (waiting_1 : List XAct) (room_1 : Int) (i_1 : Int) (arr_1 : List UInt8) (arr_2 : List UInt8) (arr_3 : List UInt8) (v_2 : List (List UInt8)) (v_3 : List XWrite) (v_4 : Int) (v_5 : Bool) : Option Bool :=
  bif (decide (i_1 < (script.length : Int))) then
    jn (fun (waiting_2 : List XAct) (room_2 : Int) (arr_4 : List UInt8) (arr_5 : List UInt8) (arr_6 : List UInt8) (v_6 : List (List UInt8)) (v_7 : List XWrite) (v_8 : Int) (v_9 : Bool) =>
      sf97 waiting_2 room_2 (IntKind.wrap .i64 (i_1 + 1)) arr_4 arr_5 arr_6 v_6 v_7 v_8 v_9)
    (fun k120 =>
      ck ((0 : Int) ≤ i_1 ∧ i_1 < (script.length : Int)) <|
      bif (!((script.getD i_1.toNat default).sync)) then
        (m24_overflightlaw44_double ((script.getD i_1.toNat default).byte)).bind fun double_1 =>
        (m23_disk_Write (⟨v_2, v_3, v_4, v_5⟩ : XDisk) ((UInt8.ofNat ((((script.getD i_1.toNat default).at_).toNat : Int).tmod 4).toNat).toNat : Int) double_1).bind fun write_1 =>
        bif (decide (write_1.2 ≠ 0)) then
          some false
        else
          ck ((0 : Int) ≤ ((UInt8.ofNat ((((script.getD i_1.toNat default).at_).toNat : Int).tmod 4).toNat).toNat : Int) ∧ ((UInt8.ofNat ((((script.getD i_1.toNat default).at_).toNat : Int).tmod 4).toNat).toNat : Int) < (arr_3.length : Int)) <|
          ck ((waiting_1.length + [(script.getD i_1.toNat default)].length) * 3 ≤ 140737488355328) <|
          ck ((arr_3.set ((UInt8.ofNat ((((script.getD i_1.toNat default).at_).toNat : Int).tmod 4).toNat).toNat : Int).toNat ((script.getD i_1.toNat default).byte)).length = 4) <|
          ck ((arr_3.set ((UInt8.ofNat ((((script.getD i_1.toNat default).at_).toNat : Int).tmod 4).toNat).toNat : Int).toNat ((script.getD i_1.toNat default).byte)).length = 4) <|
          (m26_overflightlaw44_holds write_1.1 (arr_3.set ((UInt8.ofNat ((((script.getD i_1.toNat default).at_).toNat : Int).tmod 4).toNat).toNat : Int).toNat ((script.getD i_1.toNat default).byte)) (arr_3.set ((UInt8.ofNat ((((script.getD i_1.toNat default).at_).toNat : Int).tmod 4).toNat).toNat : Int).toNat ((script.getD i_1.toNat default).byte))).bind fun holds_1 =>
          bif (!holds_1) then
            some false
          else
            k120 (waiting_1 ++ [(script.getD i_1.toNat default)]) room_1 arr_1 arr_2 (arr_3.set ((UInt8.ofNat ((((script.getD i_1.toNat default).at_).toNat : Int).tmod 4).toNat).toNat : Int).toNat ((script.getD i_1.toNat default).byte)) write_1.1.sectors write_1.1.pending write_1.1.left write_1.1.stopped
      else
        (m25_disk_Sync (⟨v_2, v_3, v_4, v_5⟩ : XDisk)).bind fun sync_1 =>
        loop3 (m4_overflightlaw44_DiskHistory_B1 left waiting_1 room_1 arr_3 k120 sync_1) (1000000) 0 arr_1 arr_2)
  else
    (m20_disk_Restart (⟨v_2, v_3, v_4, v_5⟩ : XDisk)).bind fun restart_2 =>
    ck (arr_2.length = 4) <|
    ck (arr_1.length = 4) <|
    (m26_overflightlaw44_holds restart_2 arr_2 arr_1).bind fun holds_4 =>
    some holds_4

def m4_overflightlaw44_DiskHistory (script : List XAct) (left : UInt8) : Option Bool :=
  (m13_overflightlaw44_sane).bind fun sane_1 =>
  bif (!sane_1) then
    some false
  else
    bif (decide (40 < (script.length : Int))) then
      some true
    else
      (m15_disk_New 4).bind fun new_1 =>
      (m22_disk_Stop new_1.1 (left.toNat : Int)).bind fun stop_1 =>
      jn (fun (v_1 : Bool) =>
        bif v_1 then
          some false
        else
          loop10 (m4_overflightlaw44_DiskHistory_B0 script left) (((script.length : Int) - 0).toNat + 1) [] (left.toNat : Int) 0 ([0, 0, 0, 0] : List UInt8) ([0, 0, 0, 0] : List UInt8) ([0, 0, 0, 0] : List UInt8) stop_1.1.sectors stop_1.1.pending stop_1.1.left stop_1.1.stopped)
      (fun k50 =>
        bif (decide (new_1.2 ≠ 0)) then
          k50 true
        else
          k50 (decide (stop_1.2 ≠ 0)))

theorem c4_overflightlaw44_DiskHistory {w : World} {O : List Nat} {script : List XAct} {left : UInt8} {a_script : Option Addr} {c_script : Nat} (hO : ∀ k ∈ O, k < w.heap.size) (f_script : SlR rXAct w O a_script c_script script) {x : Bool} (hm : m4_overflightlaw44_DiskHistory script left = some x) :
    Ok Try.prog 4 [(Value.slice a_script script.length c_script), (Value.int .u8 (left.toNat : Int))] w O vB x := by
  unfold m4_overflightlaw44_DiskHistory at hm
  refine Fn_of_Wp (n := 163) (xs := [.tmp 4]) Try.func4 rfl Try.ntmps4 Try.results4 rfl ?_
  have hs := St.start hO
  refine Wp_seq ?_
  refine Wp_region ?_  -- 0 law.go:100
  refine Rg_op rfl (op_assign (v := (Value.bool false)) rfl ?_)
  refine Rg_nil ?_
  refine Wp_seq ?_
  refine Wp_seq ?_
  refine Wp_region ?_  -- 1 law.go:101
  replace hm := bd hm; obtain ⟨sane_1, hv1, hm⟩ := hm
  refine Rg_op rfl (op_call Try.call13 (c13_overflightlaw44_sane  hs.ltw  hv1) rfl ?_)
  rintro v2 w3 ⟨hx4, h5⟩
  have hs6 := hs.call hx4
  have p7 := Step.ext (O := ks [] O) hx4
  clear hx4
  replace f_script := f_script.step p7
  clear p7
  obtain rfl := h5
  refine Rg_op rfl (op_not rfl ?_)
  refine Rg_nil ?_
  refine Wp_cond rfl (fun hc9 => ?_) (fun hc9 => ?_)
  ·
    replace hm := bif_t hm hc9
    refine Wp_seq ?_
    clear f_script
    refine Wp_region ?_  -- 2 law.go:102
    refine Rg_op rfl (op_assign (v := (Value.bool false)) rfl ?_)
    refine Rg_nil ?_
    refine Wp_ret ?_
    have hz := step_all hs6
    refine ⟨_, (show Closes [] _ _ from rfl), [(Value.bool false)], ⟨rfl, trivial⟩, hs6.ext, ?_⟩
    exact Vr.eq (a := vB) (x := false) rfl (Option.some.inj hm)
  ·
    replace hm := bif_f hm hc9
    refine Wp_skip ?_
    refine Wp_seq ?_
    refine Wp_seq ?_
    refine Wp_region ?_  -- 3 law.go:104
    refine Rg_op rfl (op_move (v := (Value.slice a_script script.length c_script)) rfl ?_)
    refine Rg_op rfl (op_len Try.underlying35 rfl ?_)
    refine Rg_op rfl (op_gtr rfl rfl ?_)
    refine Rg_nil ?_
    refine Wp_cond rfl (fun hc10 => ?_) (fun hc10 => ?_)
    ·
      replace hm := bif_t hm hc10
      refine Wp_seq ?_
      clear f_script
      refine Wp_region ?_  -- 4 law.go:105
      refine Rg_op rfl (op_assign (v := (Value.bool true)) rfl ?_)
      refine Rg_nil ?_
      refine Wp_ret ?_
      have hz := step_all hs6
      refine ⟨_, (show Closes [] _ _ from rfl), [(Value.bool true)], ⟨rfl, trivial⟩, hs6.ext, ?_⟩
      exact Vr.eq (a := vB) (x := true) rfl (Option.some.inj hm)
    ·
      replace hm := bif_f hm hc10
      refine Wp_skip ?_
      refine Wp_seq ?_
      refine Wp_region ?_  -- 5 law.go:107
      replace hm := bd hm; obtain ⟨new_1, hv11, hm⟩ := hm
      refine Rg_op rfl (op_call Try.call15 (c15_disk_New (sectors := 4) hs6.ltw (show InK .i64 4 from by decide) hv11) rfl ?_)
      rintro v12 w13 ⟨hx14, h15⟩
      have hs16 := hs6.call hx14
      have p17 := Step.ext (O := ks [] O) hx14
      clear hx14
      replace f_script := f_script.step p17
      clear p17 hs6
      obtain ⟨v18, v19, rfl, h20, h21⟩ := h15
      obtain ⟨_, rfl, ⟨_, _, rfl, ⟨a_y22_sectors, c_y22_sectors, rfl, f_y22_sectors⟩, ⟨_, _, rfl, ⟨a_y22_pending, c_y22_pending, rfl, f_y22_pending⟩, ⟨_, _, rfl, ⟨rfl, r_y22_left⟩, rfl⟩⟩⟩⟩ := h20
      obtain ⟨rfl, r_y23⟩ := h21
      refine Rg_op rfl (op_move (v := (Value.tuple [(Value.agg [(Value.slice a_y22_sectors new_1.1.sectors.length c_y22_sectors), (Value.slice a_y22_pending new_1.1.pending.length c_y22_pending), (Value.int .i64 new_1.1.left), (Value.bool new_1.1.stopped)].toArray), (Value.int .i64 new_1.2)].toArray)) rfl ?_)
      refine Rg_op rfl (op_extract (v := (Value.agg [(Value.slice a_y22_sectors new_1.1.sectors.length c_y22_sectors), (Value.slice a_y22_pending new_1.1.pending.length c_y22_pending), (Value.int .i64 new_1.1.left), (Value.bool new_1.1.stopped)].toArray)) rfl rfl ?_)
      refine Rg_op rfl (op_extract (v := (Value.int .i64 new_1.2)) rfl rfl ?_)
      refine Rg_op rfl (op_alloc ty25 hs16 ?_)
      intro b24 w25 _ p26 hs27
      replace f_script := f_script.step p26
      replace f_y22_sectors := f_y22_sectors.step p26
      replace f_y22_pending := f_y22_pending.step p26
      clear p26 hs16
      refine Rg_op_ (op_store (cs := [(Value.slice none 0 0), (Value.slice none 0 0), (Value.int .i64 0), (Value.bool false)]) (vs := [(Value.slice a_y22_sectors new_1.1.sectors.length c_y22_sectors), (Value.slice a_y22_pending new_1.1.pending.length c_y22_pending), (Value.int .i64 new_1.1.left), (Value.bool new_1.1.stopped)]) (cs' := [(Value.slice a_y22_sectors new_1.1.sectors.length c_y22_sectors), (Value.slice a_y22_pending new_1.1.pending.length c_y22_pending), (Value.int .i64 new_1.1.left), (Value.bool new_1.1.stopped)]) (bs' := [(some b24, Obj.cells [(Value.slice a_y22_sectors new_1.1.sectors.length c_y22_sectors), (Value.slice a_y22_pending new_1.1.pending.length c_y22_pending), (Value.int .i64 new_1.1.left), (Value.bool new_1.1.stopped)].toArray 25)]) (i := 0) ty25 hs27 rfl rfl rfl rfl rfl (le_lit rfl) rfl rfl rfl ?_)
      intro w29 p30 hs31
      replace f_script := f_script.step p30
      replace f_y22_sectors := f_y22_sectors.step p30
      replace f_y22_pending := f_y22_pending.step p30
      clear p30 hs27
      refine Rg_op rfl (op_assign (v := (Value.int .i64 new_1.2)) rfl ?_)
      refine Rg_nil ?_
      refine Wp_seq ?_
      refine Wp_region ?_  -- 6 law.go:108
      refine Rg_op rfl (op_loadA (cs := [(Value.slice a_y22_sectors new_1.1.sectors.length c_y22_sectors), (Value.slice a_y22_pending new_1.1.pending.length c_y22_pending), (Value.int .i64 new_1.1.left), (Value.bool new_1.1.stopped)]) (vs := [(Value.slice a_y22_sectors new_1.1.sectors.length c_y22_sectors), (Value.slice a_y22_pending new_1.1.pending.length c_y22_pending), (Value.int .i64 new_1.1.left), (Value.bool new_1.1.stopped)]) (i := 0) ty25 hs31 rfl rfl rfl rfl ?_)
      refine Rg_op rfl (op_move (v := (Value.int .u8 (left.toNat : Int))) rfl ?_)
      refine Rg_op rfl (op_conv_u8 Try.underlying5 Try.underlying3 rfl (by decide) ?_)
      replace hm := bd hm; obtain ⟨stop_1, hv32, hm⟩ := hm
      refine Rg_op rfl (op_call Try.call22 (c22_disk_Stop (d := new_1.1) (left := (left.toNat : Int)) hs31.ltw f_y22_sectors f_y22_pending r_y22_left (inK_ofu8 .i64 (by decide) left) hv32) rfl ?_)
      rintro v33 w34 ⟨hx35, h36⟩
      have hs37 := hs31.call hx35
      have p38 := Step.ext (O := ks [(some b24, Obj.cells [(Value.slice a_y22_sectors new_1.1.sectors.length c_y22_sectors), (Value.slice a_y22_pending new_1.1.pending.length c_y22_pending), (Value.int .i64 new_1.1.left), (Value.bool new_1.1.stopped)].toArray 25)] O) hx35
      clear hx35
      replace f_script := f_script.step p38
      replace f_y22_sectors := f_y22_sectors.step p38
      replace f_y22_pending := f_y22_pending.step p38
      clear p38 hs31
      obtain ⟨v39, v40, rfl, h41, h42⟩ := h36
      obtain ⟨_, rfl, ⟨_, _, rfl, ⟨a_y43_sectors, c_y43_sectors, rfl, f_y43_sectors⟩, ⟨_, _, rfl, ⟨a_y43_pending, c_y43_pending, rfl, f_y43_pending⟩, ⟨_, _, rfl, ⟨rfl, r_y43_left⟩, rfl⟩⟩⟩⟩ := h41
      obtain ⟨rfl, r_y44⟩ := h42
      refine Rg_op rfl (op_move (v := (Value.tuple [(Value.agg [(Value.slice a_y43_sectors stop_1.1.sectors.length c_y43_sectors), (Value.slice a_y43_pending stop_1.1.pending.length c_y43_pending), (Value.int .i64 stop_1.1.left), (Value.bool stop_1.1.stopped)].toArray), (Value.int .i64 stop_1.2)].toArray)) rfl ?_)
      refine Rg_op rfl (op_extract (v := (Value.agg [(Value.slice a_y43_sectors stop_1.1.sectors.length c_y43_sectors), (Value.slice a_y43_pending stop_1.1.pending.length c_y43_pending), (Value.int .i64 stop_1.1.left), (Value.bool stop_1.1.stopped)].toArray)) rfl rfl ?_)
      refine Rg_op rfl (op_extract (v := (Value.int .i64 stop_1.2)) rfl rfl ?_)
      refine Rg_op_ (op_store (cs := [(Value.slice a_y22_sectors new_1.1.sectors.length c_y22_sectors), (Value.slice a_y22_pending new_1.1.pending.length c_y22_pending), (Value.int .i64 new_1.1.left), (Value.bool new_1.1.stopped)]) (vs := [(Value.slice a_y43_sectors stop_1.1.sectors.length c_y43_sectors), (Value.slice a_y43_pending stop_1.1.pending.length c_y43_pending), (Value.int .i64 stop_1.1.left), (Value.bool stop_1.1.stopped)]) (cs' := [(Value.slice a_y43_sectors stop_1.1.sectors.length c_y43_sectors), (Value.slice a_y43_pending stop_1.1.pending.length c_y43_pending), (Value.int .i64 stop_1.1.left), (Value.bool stop_1.1.stopped)]) (bs' := [(some b24, Obj.cells [(Value.slice a_y43_sectors stop_1.1.sectors.length c_y43_sectors), (Value.slice a_y43_pending stop_1.1.pending.length c_y43_pending), (Value.int .i64 stop_1.1.left), (Value.bool stop_1.1.stopped)].toArray 25)]) (i := 0) ty25 hs37 rfl rfl rfl rfl rfl (le_lit rfl) rfl rfl rfl ?_)
      intro w45 p46 hs47
      replace f_script := f_script.step p46
      replace f_y22_sectors := f_y22_sectors.step p46
      replace f_y22_pending := f_y22_pending.step p46
      replace f_y43_sectors := f_y43_sectors.step p46
      replace f_y43_pending := f_y43_pending.step p46
      clear p46 hs37
      refine Rg_op rfl (op_assign (v := (Value.int .i64 stop_1.2)) rfl ?_)
      refine Rg_nil ?_
      refine Wp_seq ?_
      refine Wp_reset [] [(0, (Value.slice a_script script.length c_script)), (1, (Value.int .u8 (left.toNat : Int))), (5, (Value.pointer (some ⟨b24, 0, none⟩))), (6, (Value.int .i64 new_1.2)), (7, (Value.int .i64 stop_1.2))] rfl ⟨rfl, rfl, rfl, rfl, rfl, trivial⟩ fun ξ48 => ?_
      replace hm := jn_elim hm; obtain ⟨k50, hk51, hm⟩ := hm
      refine Wp_seqJ [37, 38, 39, 40, 41, 42] (fun fr w' => ∃ (v_1 : Bool) (Ebs : Ents), Ebs = [(some b24, Obj.cells [(Value.slice a_y43_sectors stop_1.1.sectors.length c_y43_sectors), (Value.slice a_y43_pending stop_1.1.pending.length c_y43_pending), (Value.int .i64 stop_1.1.left), (Value.bool stop_1.1.stopped)].toArray 25)] ∧ fr [] [(42, (Value.bool v_1))] ∧ Step (ks [(some b24, Obj.cells [(Value.slice a_y43_sectors stop_1.1.sectors.length c_y43_sectors), (Value.slice a_y43_pending stop_1.1.pending.length c_y43_pending), (Value.int .i64 stop_1.1.left), (Value.bool stop_1.1.stopped)].toArray 25)] O) w45 (ks Ebs O) w' ∧ St ⟨w, [], []⟩ O w' Ebs ∧ k50 v_1 = some x) ?_ ?_
      ·
        rintro ρ57 w53 ⟨v_1, Ebs, hEbs, hfr56, hst55, hs54, hm⟩
        replace hm := jnE1 hk51 hm
        subst hEbs; rw [hfr56.eq]; clear hfr56
        replace f_script := f_script.step hst55
        replace f_y22_sectors := f_y22_sectors.step hst55
        replace f_y22_pending := f_y22_pending.step hst55
        replace f_y43_sectors := f_y43_sectors.step hst55
        replace f_y43_pending := f_y43_pending.step hst55
        clear hst55 hs47
        refine Wp_cond rfl (fun hc58 => ?_) (fun hc58 => ?_)
        ·
          replace hm := bif_t hm hc58
          refine Wp_seq ?_
          obtain ⟨hs59, p60⟩ := hs54.sub (bs' := []) (.cons _ List.Sublist.slnil)
          clear f_script f_y22_sectors f_y22_pending f_y43_sectors f_y43_pending
          clear p60 hs54
          refine Wp_region ?_  -- 8 law.go:110
          refine Rg_op rfl (op_assign (v := (Value.bool false)) rfl ?_)
          refine Rg_nil ?_
          refine Wp_ret ?_
          have hz := step_all hs59
          refine ⟨_, (show Closes [] _ _ from rfl), [(Value.bool false)], ⟨rfl, trivial⟩, hs59.ext, ?_⟩
          exact Vr.eq (a := vB) (x := false) rfl (Option.some.inj hm)
        ·
          replace hm := bif_f hm hc58
          refine Wp_skip ?_
          refine Wp_seq ?_
          clear f_y22_sectors f_y22_pending
          refine Wp_region ?_  -- 9 law.go:112
          refine Rg_op rfl (op_alloc ty37 hs54 ?_)
          intro b61 w62 _ p63 hs64
          replace f_script := f_script.step p63
          replace f_y43_sectors := f_y43_sectors.step p63
          replace f_y43_pending := f_y43_pending.step p63
          clear p63 hs54
          have f65 := Gs.of_cells (p := rU8) (e := 37) (bl := b61) (c := 4) (w := w62) (O := ks [(some b61, Obj.cells [(Value.int .u8 0), (Value.int .u8 0), (Value.int .u8 0), (Value.int .u8 0)].toArray 37), (some b24, Obj.cells [(Value.slice a_y43_sectors stop_1.1.sectors.length c_y43_sectors), (Value.slice a_y43_pending stop_1.1.pending.length c_y43_pending), (Value.int .i64 stop_1.1.left), (Value.bool stop_1.1.stopped)].toArray 25)] O) (show Els rU8 _ _ [(Value.int .u8 0), (Value.int .u8 0), (Value.int .u8 0), (Value.int .u8 0)] ([0, 0, 0, 0] : List UInt8) from ⟨_, _, rfl, (mk_u8 (show InK .u8 0 from by decide)), ⟨_, _, rfl, (mk_u8 (show InK .u8 0 from by decide)), ⟨_, _, rfl, (mk_u8 (show InK .u8 0 from by decide)), ⟨_, _, rfl, (mk_u8 (show InK .u8 0 from by decide)), Els.nil⟩⟩⟩⟩) rfl (le_lit rfl)
          refine Rg_op rfl (op_alloc ty37 hs64 ?_)
          intro b67 w68 _ p69 hs70
          replace f_script := f_script.step p69
          replace f_y43_sectors := f_y43_sectors.step p69
          replace f_y43_pending := f_y43_pending.step p69
          replace f65 := f65.step p69
          clear p69 hs64
          have f71 := Gs.of_cells (p := rU8) (e := 37) (bl := b67) (c := 4) (w := w68) (O := ks [(some b67, Obj.cells [(Value.int .u8 0), (Value.int .u8 0), (Value.int .u8 0), (Value.int .u8 0)].toArray 37), (some b61, Obj.cells [(Value.int .u8 0), (Value.int .u8 0), (Value.int .u8 0), (Value.int .u8 0)].toArray 37), (some b24, Obj.cells [(Value.slice a_y43_sectors stop_1.1.sectors.length c_y43_sectors), (Value.slice a_y43_pending stop_1.1.pending.length c_y43_pending), (Value.int .i64 stop_1.1.left), (Value.bool stop_1.1.stopped)].toArray 25)] O) (show Els rU8 _ _ [(Value.int .u8 0), (Value.int .u8 0), (Value.int .u8 0), (Value.int .u8 0)] ([0, 0, 0, 0] : List UInt8) from ⟨_, _, rfl, (mk_u8 (show InK .u8 0 from by decide)), ⟨_, _, rfl, (mk_u8 (show InK .u8 0 from by decide)), ⟨_, _, rfl, (mk_u8 (show InK .u8 0 from by decide)), ⟨_, _, rfl, (mk_u8 (show InK .u8 0 from by decide)), Els.nil⟩⟩⟩⟩) rfl (le_lit rfl)
          refine Rg_op rfl (op_alloc ty37 hs70 ?_)
          intro b73 w74 _ p75 hs76
          replace f_script := f_script.step p75
          replace f_y43_sectors := f_y43_sectors.step p75
          replace f_y43_pending := f_y43_pending.step p75
          replace f65 := f65.step p75
          replace f71 := f71.step p75
          clear p75 hs70
          have f77 := Gs.of_cells (p := rU8) (e := 37) (bl := b73) (c := 4) (w := w74) (O := ks [(some b73, Obj.cells [(Value.int .u8 0), (Value.int .u8 0), (Value.int .u8 0), (Value.int .u8 0)].toArray 37), (some b67, Obj.cells [(Value.int .u8 0), (Value.int .u8 0), (Value.int .u8 0), (Value.int .u8 0)].toArray 37), (some b61, Obj.cells [(Value.int .u8 0), (Value.int .u8 0), (Value.int .u8 0), (Value.int .u8 0)].toArray 37), (some b24, Obj.cells [(Value.slice a_y43_sectors stop_1.1.sectors.length c_y43_sectors), (Value.slice a_y43_pending stop_1.1.pending.length c_y43_pending), (Value.int .i64 stop_1.1.left), (Value.bool stop_1.1.stopped)].toArray 25)] O) (show Els rU8 _ _ [(Value.int .u8 0), (Value.int .u8 0), (Value.int .u8 0), (Value.int .u8 0)] ([0, 0, 0, 0] : List UInt8) from ⟨_, _, rfl, (mk_u8 (show InK .u8 0 from by decide)), ⟨_, _, rfl, (mk_u8 (show InK .u8 0 from by decide)), ⟨_, _, rfl, (mk_u8 (show InK .u8 0 from by decide)), ⟨_, _, rfl, (mk_u8 (show InK .u8 0 from by decide)), Els.nil⟩⟩⟩⟩) rfl (le_lit rfl)
          refine Rg_nil ?_
          refine Wp_seq ?_
          refine Wp_region ?_  -- 10 law.go:113
          refine Rg_op rfl (op_buildSlice (cs := []) (parts := []) ty35 ty39 hs76 (by decide) rfl ?_)
          intro b79 w80 hx83 p81 hs82
          replace f_script := f_script.step p81
          replace f_y43_sectors := f_y43_sectors.step p81
          replace f_y43_pending := f_y43_pending.step p81
          replace f65 := f65.step p81
          replace f71 := f71.step p81
          replace f77 := f77.step p81
          clear p81 hs76
          refine Rg_op rfl (op_assign (v := (Value.slice (some ⟨b79, 0, none⟩) 0 0)) rfl ?_)
          refine Rg_nil ?_
          refine Wp_seq ?_
          refine Wp_region ?_  -- 11 law.go:114
          refine Rg_op rfl (op_move (v := (Value.int .u8 (left.toNat : Int))) rfl ?_)
          refine Rg_op rfl (op_conv_u8 Try.underlying5 Try.underlying3 rfl (by decide) ?_)
          refine Rg_op rfl (op_assign (v := (Value.int .i64 (left.toNat : Int))) rfl ?_)
          refine Rg_nil ?_
          refine Wp_seq ?_
          refine Wp_seq ?_
          refine Wp_region ?_  -- 12 law.go:115
          refine Rg_op rfl (op_assign (v := (Value.int .i64 0)) rfl ?_)
          refine Rg_nil ?_
          refine Wp_block ?_
          refine Wp_reset [] [(0, (Value.slice a_script script.length c_script)), (5, (Value.pointer (some ⟨b24, 0, none⟩))), (8, (Value.pointer (some ⟨b61, 0, none⟩))), (9, (Value.pointer (some ⟨b67, 0, none⟩))), (10, (Value.pointer (some ⟨b73, 0, none⟩))), (11, (Value.slice (some ⟨b79, 0, none⟩) 0 0)), (12, (Value.int .i64 (left.toNat : Int))), (13, (Value.int .i64 0))] rfl ⟨rfl, rfl, rfl, rfl, rfl, rfl, rfl, rfl, trivial⟩ fun ξ96 => ?_
          have f101 := Gs.of_cells (p := rXAct) (e := 39) (bl := b79) (c := 0) (w := w80) (O := ks [(some b79, Obj.cells [].toArray 39), (some b73, Obj.cells [(Value.int .u8 0), (Value.int .u8 0), (Value.int .u8 0), (Value.int .u8 0)].toArray 37), (some b67, Obj.cells [(Value.int .u8 0), (Value.int .u8 0), (Value.int .u8 0), (Value.int .u8 0)].toArray 37), (some b61, Obj.cells [(Value.int .u8 0), (Value.int .u8 0), (Value.int .u8 0), (Value.int .u8 0)].toArray 37), (some b24, Obj.cells [(Value.slice a_y43_sectors stop_1.1.sectors.length c_y43_sectors), (Value.slice a_y43_pending stop_1.1.pending.length c_y43_pending), (Value.int .i64 stop_1.1.left), (Value.bool stop_1.1.stopped)].toArray 25)] O) (show Els rXAct _ _ [] [] from Els.nil) rfl (le_lit rfl)
          refine Wp_loopM [4, 11, 12, 13, 14, 15, 16, 17, 18, 19, 20, 46, 47, 48, 49, 50, 51, 52, 53, 54, 55, 56, 57, 58, 59, 60, 61, 62, 63, 64, 65, 66, 67, 68, 69, 70, 71, 72, 73, 74, 75, 76, 77, 78, 79, 80, 81, 82, 83, 84, 85, 86, 87, 88, 89, 90, 91, 92, 93, 94, 95, 96, 97, 98, 99, 100, 101, 102, 103, 104, 105, 106, 107, 108, 109, 110, 111, 112, 113, 114, 115, 116, 117, 118, 119, 120, 121, 122, 123, 124, 125, 126, 127, 128, 129, 130, 131, 132, 133, 134, 135, 136, 137, 138, 139, 140, 141, 142, 143, 144, 145, 146, 147, 148, 149, 150, 151, 152, 153, 154, 155, 156, 157] (fun m fr w' => ∃ (waiting_1 : List XAct) (room_1 : Int) (i_1 : Int) (arr_1 : List UInt8) (arr_2 : List UInt8) (arr_3 : List UInt8) (v_2 : List (List UInt8)) (v_3 : List XWrite) (v_4 : Int) (v_5 : Bool) (a_g86 : Option Addr) (c_g86 : Nat) (k_g86 : Option Nat) (o_g86 : Obj) (o_g89 : Obj) (o_g90 : Obj) (o_g91 : Obj) (a_y92 : Option Addr) (c_y92 : Nat) (a_y93 : Option Addr) (c_y93 : Nat) (Ebs : Ents), Ebs = [(k_g86, o_g86), (some b73, o_g89), (some b67, o_g90), (some b61, o_g91), (some b24, Obj.cells [(Value.slice a_y92 v_2.length c_y92), (Value.slice a_y93 v_3.length c_y93), (Value.int .i64 v_4), (Value.bool v_5)].toArray 25)] ∧ fr [] [(11, (Value.slice a_g86 waiting_1.length c_g86)), (12, (Value.int .i64 room_1)), (13, (Value.int .i64 i_1))] ∧ Step (ks [(some b79, Obj.cells [].toArray 39), (some b73, Obj.cells [(Value.int .u8 0), (Value.int .u8 0), (Value.int .u8 0), (Value.int .u8 0)].toArray 37), (some b67, Obj.cells [(Value.int .u8 0), (Value.int .u8 0), (Value.int .u8 0), (Value.int .u8 0)].toArray 37), (some b61, Obj.cells [(Value.int .u8 0), (Value.int .u8 0), (Value.int .u8 0), (Value.int .u8 0)].toArray 37), (some b24, Obj.cells [(Value.slice a_y43_sectors stop_1.1.sectors.length c_y43_sectors), (Value.slice a_y43_pending stop_1.1.pending.length c_y43_pending), (Value.int .i64 stop_1.1.left), (Value.bool stop_1.1.stopped)].toArray 25)] O) w80 (ks Ebs O) w' ∧ St ⟨w, [], []⟩ O w' Ebs ∧ Gs rXAct 39 w' (ks Ebs O) a_g86 c_g86 waiting_1 k_g86 o_g86 ∧ InK .i64 room_1 ∧ InK .i64 i_1 ∧ Gs rU8 37 w' (ks Ebs O) (some ⟨b73, 0, none⟩) 4 arr_1 (some b73) o_g89 ∧ Gs rU8 37 w' (ks Ebs O) (some ⟨b67, 0, none⟩) 4 arr_2 (some b67) o_g90 ∧ Gs rU8 37 w' (ks Ebs O) (some ⟨b61, 0, none⟩) 4 arr_3 (some b61) o_g91 ∧ SlR (rSl rU8) w' (ks Ebs O) a_y92 c_y92 v_2 ∧ SlR rXWrite w' (ks Ebs O) a_y93 c_y93 v_3 ∧ InK .i64 v_4 ∧ loop10 (m4_overflightlaw44_DiskHistory_B0 script left) m waiting_1 room_1 i_1 arr_1 arr_2 arr_3 v_2 v_3 v_4 v_5 = some x) (((script.length : Int) - 0).toNat + 1) ⟨[], (left.toNat : Int), 0, ([0, 0, 0, 0] : List UInt8), ([0, 0, 0, 0] : List UInt8), ([0, 0, 0, 0] : List UInt8), stop_1.1.sectors, stop_1.1.pending, stop_1.1.left, stop_1.1.stopped, (some ⟨b79, 0, none⟩), 0, (some b79), (Obj.cells [].toArray 39), (Obj.cells [(Value.int .u8 0), (Value.int .u8 0), (Value.int .u8 0), (Value.int .u8 0)].toArray 37), (Obj.cells [(Value.int .u8 0), (Value.int .u8 0), (Value.int .u8 0), (Value.int .u8 0)].toArray 37), (Obj.cells [(Value.int .u8 0), (Value.int .u8 0), (Value.int .u8 0), (Value.int .u8 0)].toArray 37), a_y43_sectors, c_y43_sectors, a_y43_pending, c_y43_pending, _, rfl, ⟨Out.refl _ _, rfl, rfl, rfl, rfl, trivial⟩, Step.refl _ _, hs82, f101, (inK_ofu8 .i64 (by decide) left), (show InK .i64 0 from by decide), f77, f71, f65, f_y43_sectors, f_y43_pending, r_y43_left, hm⟩ ?_ ?_
          · rintro _ _ ⟨_, _, _, _, _, _, _, _, _, _, _, _, _, _, _, _, _, _, _, _, _, _, _, _, _, _, _, _, _, _, _, _, _, _, _, hm⟩; exact loop10_z hm
          · rintro m100 K99 hK99 ρ106 w102 ⟨waiting_1, room_1, i_1, arr_1, arr_2, arr_3, v_2, v_3, v_4, v_5, a_g86, c_g86, k_g86, o_g86, o_g89, o_g90, o_g91, a_y92, c_y92, a_y93, c_y93, Ebs, hEbs, hfr105, hst104, hs103, f_g86, r_y87, r_y88, f_g89, f_g90, f_g91, f_y92, f_y93, r_y94, hm⟩
            obtain ⟨sf97, hsf98, hm⟩ := loop10_s hm; unfold m4_overflightlaw44_DiskHistory_B0 at hm
            subst hEbs; rw [hfr105.eq]; clear hfr105
            replace f_script := f_script.step hst104
            replace f_y43_sectors := f_y43_sectors.step hst104
            replace f_y43_pending := f_y43_pending.step hst104
            replace f65 := f65.step hst104
            replace f71 := f71.step hst104
            replace f77 := f77.step hst104
            replace f101 := f101.step hst104
            have ch107 := hst104
            refine Wp_seq ?_
            refine Wp_seq ?_
            clear f_y43_sectors f_y43_pending f65 f71 f77 f101
            refine Wp_region ?_  -- 13 law.go:115
            refine Rg_op rfl (op_move (v := (Value.int .i64 i_1)) rfl ?_)
            refine Rg_op rfl (op_move (v := (Value.slice a_script script.length c_script)) rfl ?_)
            refine Rg_op rfl (op_len Try.underlying35 rfl ?_)
            refine Rg_op rfl (op_lss rfl rfl ?_)
            refine Rg_nil ?_
            refine Wp_cond rfl (fun hc108 => ?_) (fun hc108 => ?_)
            ·
              replace hm := bif_t hm hc108
              refine Wp_skip ?_
              refine Wp_reset2 [4, 11, 12, 13, 14, 15, 16, 17, 18, 19, 20, 46, 47, 48, 49, 50, 51, 52, 53, 54, 55, 56, 57, 58, 59, 60, 61, 62, 63, 64, 65, 66, 67, 68, 69, 70, 71, 72, 73, 74, 75, 76, 77, 78, 79, 80, 81, 82, 83, 84, 85, 86, 87, 88, 89, 90, 91, 92, 93, 94, 95, 96, 97, 98, 99, 100, 101, 102, 103, 104, 105, 106, 107, 108, 109, 110, 111, 112, 113, 114, 115, 116, 117, 118, 119, 120, 121, 122, 123, 124, 125, 126, 127, 128, 129, 130, 131, 132, 133, 134, 135, 136, 137, 138, 139, 140, 141, 142, 143, 144, 145, 146, 147, 148, 149, 150, 151, 152, 153, 154, 155, 156, 157] [] (updL ⟨ξ96, []⟩ [(0, (Value.slice a_script script.length c_script)), (5, (Value.pointer (some ⟨b24, 0, none⟩))), (8, (Value.pointer (some ⟨b61, 0, none⟩))), (9, (Value.pointer (some ⟨b67, 0, none⟩))), (10, (Value.pointer (some ⟨b73, 0, none⟩))), (11, (Value.slice (some ⟨b79, 0, none⟩) 0 0)), (12, (Value.int .i64 (left.toNat : Int))), (13, (Value.int .i64 0))]) [(11, (Value.slice a_g86 waiting_1.length c_g86)), (12, (Value.int .i64 room_1)), (13, (Value.int .i64 i_1))] (by repeat (first | with_reducible exact Out.refl _ _ | refine Out.upd ?_ rfl | refine Out.updL ?_ rfl | refine Out.mix' ?_ rfl | exact Out.refl _ _)) rfl ⟨rfl, rfl, rfl, trivial⟩ fun ξ109 => ?_
              replace hm := jn_elim hm; obtain ⟨k120, hk121, hm⟩ := hm
              refine Wp_seqJ [4, 11, 12, 14, 15, 16, 17, 18, 19, 20, 52, 53, 54, 55, 56, 57, 58, 59, 60, 61, 62, 63, 64, 65, 66, 67, 68, 69, 70, 71, 72, 73, 74, 75, 76, 77, 78, 79, 80, 81, 82, 83, 84, 85, 86, 87, 88, 89, 90, 91, 92, 93, 94, 95, 96, 97, 98, 99, 100, 101, 102, 103, 104, 105, 106, 107, 108, 109, 110, 111, 112, 113, 114, 115, 116, 117, 118, 119, 120, 121, 122, 123, 124, 125, 126, 127, 128, 129, 130, 131, 132, 133, 134, 135, 136, 137, 138, 139, 140, 141, 142, 143, 144, 145, 146, 147, 148, 149, 150, 151, 152, 153, 154, 155, 156, 157] (fun fr w' => ∃ (waiting_2 : List XAct) (room_2 : Int) (arr_4 : List UInt8) (arr_5 : List UInt8) (arr_6 : List UInt8) (v_6 : List (List UInt8)) (v_7 : List XWrite) (v_8 : Int) (v_9 : Bool) (a_g111 : Option Addr) (c_g111 : Nat) (k_g111 : Option Nat) (o_g111 : Obj) (o_g113 : Obj) (o_g114 : Obj) (o_g115 : Obj) (a_y116 : Option Addr) (c_y116 : Nat) (a_y117 : Option Addr) (c_y117 : Nat) (Ebs : Ents), Ebs = [(k_g111, o_g111), (some b73, o_g113), (some b67, o_g114), (some b61, o_g115), (some b24, Obj.cells [(Value.slice a_y116 v_6.length c_y116), (Value.slice a_y117 v_7.length c_y117), (Value.int .i64 v_8), (Value.bool v_9)].toArray 25)] ∧ fr [] [(11, (Value.slice a_g111 waiting_2.length c_g111)), (12, (Value.int .i64 room_2))] ∧ Step (ks [(k_g86, o_g86), (some b73, o_g89), (some b67, o_g90), (some b61, o_g91), (some b24, Obj.cells [(Value.slice a_y92 v_2.length c_y92), (Value.slice a_y93 v_3.length c_y93), (Value.int .i64 v_4), (Value.bool v_5)].toArray 25)] O) w102 (ks Ebs O) w' ∧ St ⟨w, [], []⟩ O w' Ebs ∧ Gs rXAct 39 w' (ks Ebs O) a_g111 c_g111 waiting_2 k_g111 o_g111 ∧ InK .i64 room_2 ∧ Gs rU8 37 w' (ks Ebs O) (some ⟨b73, 0, none⟩) 4 arr_4 (some b73) o_g113 ∧ Gs rU8 37 w' (ks Ebs O) (some ⟨b67, 0, none⟩) 4 arr_5 (some b67) o_g114 ∧ Gs rU8 37 w' (ks Ebs O) (some ⟨b61, 0, none⟩) 4 arr_6 (some b61) o_g115 ∧ SlR (rSl rU8) w' (ks Ebs O) a_y116 c_y116 v_6 ∧ SlR rXWrite w' (ks Ebs O) a_y117 c_y117 v_7 ∧ InK .i64 v_8 ∧ k120 waiting_2 room_2 arr_4 arr_5 arr_6 v_6 v_7 v_8 v_9 = some x) ?_ ?_
              ·
                rintro ρ127 w123 ⟨waiting_2, room_2, arr_4, arr_5, arr_6, v_6, v_7, v_8, v_9, a_g111, c_g111, k_g111, o_g111, o_g113, o_g114, o_g115, a_y116, c_y116, a_y117, c_y117, Ebs, hEbs, hfr126, hst125, hs124, f_g111, r_y112, f_g113, f_g114, f_g115, f_y116, f_y117, r_y118, hm⟩
                replace hm := jnE9 hk121 hm
                subst hEbs; rw [hfr126.eq]; clear hfr126
                replace f_script := f_script.step hst125
                replace f_g86 := f_g86.step hst125
                replace f_g89 := f_g89.step hst125
                replace f_g90 := f_g90.step hst125
                replace f_g91 := f_g91.step hst125
                replace f_y92 := f_y92.step hst125
                replace f_y93 := f_y93.step hst125
                replace ch107 := ch107.trans hst125
                clear hst125 hs103
                clear f_g86 f_g89 f_g90 f_g91 f_y92 f_y93
                refine Wp_region ?_  -- 14 law.go:115
                refine Rg_op rfl (op_move (v := (Value.int .i64 i_1)) rfl ?_)
                refine Rg_op rfl (op_addw rfl rfl ?_)
                refine Rg_op rfl (op_assign (v := (Value.int .i64 (IntKind.wrap .i64 (i_1 + 1)))) rfl ?_)
                refine Rg_nil ?_
                exact hK99 _ _ ⟨waiting_2, room_2, (IntKind.wrap .i64 (i_1 + 1)), arr_4, arr_5, arr_6, v_6, v_7, v_8, v_9, a_g111, c_g111, k_g111, o_g111, o_g113, o_g114, o_g115, a_y116, c_y116, a_y117, c_y117, _, rfl, ⟨(by repeat (first | with_reducible exact Out.refl _ _ | refine Out.upd ?_ rfl | refine Out.updL ?_ rfl | refine Out.mix' ?_ rfl | exact Out.refl _ _)), rfl, rfl, rfl, rfl, trivial⟩, ch107, hs124, f_g111, r_y112, (inK_wrap .i64 _), f_g113, f_g114, f_g115, f_y116, f_y117, r_y118, jnE10 hsf98 hm⟩
              ·
                intro K122 hK122
                have ch128 := Step.refl (ks [(k_g86, o_g86), (some b73, o_g89), (some b67, o_g90), (some b61, o_g91), (some b24, Obj.cells [(Value.slice a_y92 v_2.length c_y92), (Value.slice a_y93 v_3.length c_y93), (Value.int .i64 v_4), (Value.bool v_5)].toArray 25)] O) w102
                refine Wp_block ?_
                refine Wp_seq ?_
                refine Wp_region ?_  -- 15 law.go:116
                refine Rg_op rfl (op_move (v := (Value.slice a_script script.length c_script)) rfl ?_)
                refine Rg_op rfl (op_move (v := (Value.int .i64 i_1)) rfl ?_)
                replace hm := ck_some hm; obtain ⟨hc129, hm⟩ := hm
                refine Rg_op rfl (op_indexAddr (q := rXAct) ty35 ty39 rfl rfl f_script rfl hc129.1 hc129.2 ?_)
                intro p130 f131
                refine Rg_op rfl (op_loadPA ty39 rfl f131 rfl ?_)
                intro vs132 h133
                obtain ⟨_, _, rfl, rfl, ⟨_, _, rfl, rfl, rfl⟩⟩ := h133
                refine Rg_op rfl (op_alloc ty39 hs103 ?_)
                intro b135 w136 _ p137 hs138
                replace f_script := f_script.step p137
                replace f_g86 := f_g86.step p137
                replace f_g89 := f_g89.step p137
                replace f_g90 := f_g90.step p137
                replace f_g91 := f_g91.step p137
                replace f_y92 := f_y92.step p137
                replace f_y93 := f_y93.step p137
                replace f131 := f131.step p137
                replace ch107 := ch107.trans p137
                replace ch128 := ch128.trans p137
                clear p137 hs103
                refine Rg_op_ (op_store (cs := [(Value.bool false), (Value.int .u8 0), (Value.int .u8 0)]) (vs := [(Value.bool ((script.getD i_1.toNat default).sync)), (Value.int .u8 (((script.getD i_1.toNat default).at_).toNat : Int)), (Value.int .u8 (((script.getD i_1.toNat default).byte).toNat : Int))]) (cs' := [(Value.bool ((script.getD i_1.toNat default).sync)), (Value.int .u8 (((script.getD i_1.toNat default).at_).toNat : Int)), (Value.int .u8 (((script.getD i_1.toNat default).byte).toNat : Int))]) (bs' := [(some b135, Obj.cells [(Value.bool ((script.getD i_1.toNat default).sync)), (Value.int .u8 (((script.getD i_1.toNat default).at_).toNat : Int)), (Value.int .u8 (((script.getD i_1.toNat default).byte).toNat : Int))].toArray 39), (k_g86, o_g86), (some b73, o_g89), (some b67, o_g90), (some b61, o_g91), (some b24, Obj.cells [(Value.slice a_y92 v_2.length c_y92), (Value.slice a_y93 v_3.length c_y93), (Value.int .i64 v_4), (Value.bool v_5)].toArray 25)]) (i := 0) ty39 hs138 rfl rfl rfl rfl rfl (le_lit rfl) rfl rfl rfl ?_)
                intro w140 p141 hs142
                replace f_script := f_script.step p141
                replace f_g86 := f_g86.step p141
                replace f_g89 := f_g89.step p141
                replace f_g90 := f_g90.step p141
                replace f_g91 := f_g91.step p141
                replace f_y92 := f_y92.step p141
                replace f_y93 := f_y93.step p141
                replace f131 := f131.step p141
                replace ch107 := ch107.trans p141
                replace ch128 := ch128.trans p141
                clear p141 hs138
                refine Rg_nil ?_
                refine Wp_seq ?_
                refine Wp_seq ?_
                clear f131
                refine Wp_region ?_  -- 16 law.go:117
                refine Rg_op rfl (op_fieldAddr ty39 rfl ty4 (by decide) rfl (rfl : _ = (⟨_, 0, none⟩ : Addr)) ?_)
                refine Rg_op rfl (op_load (cs := [(Value.bool ((script.getD i_1.toNat default).sync)), (Value.int .u8 (((script.getD i_1.toNat default).at_).toNat : Int)), (Value.int .u8 (((script.getD i_1.toNat default).byte).toNat : Int))]) (i := 0) ty4 hs142 rfl rfl rfl ?_)
                refine Rg_op rfl (op_not rfl ?_)
                refine Rg_nil ?_
                refine Wp_cond rfl (fun hc143 => ?_) (fun hc143 => ?_)
                ·
                  replace hm := bif_t hm hc143
                  refine Wp_seq ?_
                  refine Wp_drawR (g0 := []) (m := 13) (fl := [11]) (TS_inv hs142) (.inl rfl) rfl (by decide +kernel) ?_  -- 17
                  refine Dw_eq (Value.agg [(Value.slice a_y92 v_2.length c_y92), (Value.slice a_y93 v_3.length c_y93), (Value.int .i64 v_4), (Value.bool v_5)].toArray) (fun ρ144 w145 g hle hi ht => ?_) ?_
                  ·
                    obtain ⟨-, hst, -⟩ := hle
                    have hsn := (Step.nx hi).1
                    refine StepOp_plain (op_loadA (cs := [(Value.slice a_y92 v_2.length c_y92), (Value.slice a_y93 v_3.length c_y93), (Value.int .i64 v_4), (Value.bool v_5)]) (vs := [(Value.slice a_y92 v_2.length c_y92), (Value.slice a_y93 v_3.length c_y93), (Value.int .i64 v_4), (Value.bool v_5)]) (i := 5) ty25 hsn (ht 5 rfl) rfl rfl rfl ?_)
                    exact Goes.same hi rfl
                  refine Dw_eq (Value.pointer (some ⟨b135, 1, none⟩)) (fun ρ147 w148 g hle hi ht => ?_) ?_
                  ·
                    obtain ⟨-, hst, -⟩ := hle
                    refine StepOp_plain (op_fieldAddr ty39 rfl ty5 (by decide) (ht 14 rfl) (rfl : _ = (⟨_, 1, none⟩ : Addr)) ?_)
                    exact Goes.same hi rfl
                  refine Dw_eq (Value.int .u8 (((script.getD i_1.toNat default).at_).toNat : Int)) (fun ρ150 w151 g hle hi ht => ?_) ?_
                  ·
                    obtain ⟨-, hst, -⟩ := hle
                    have hsn := (Step.nx hi).1
                    refine StepOp_plain (op_load (cs := [(Value.bool ((script.getD i_1.toNat default).sync)), (Value.int .u8 (((script.getD i_1.toNat default).at_).toNat : Int)), (Value.int .u8 (((script.getD i_1.toNat default).byte).toNat : Int))]) (i := 0) ty5 hsn (ht 61 rfl) rfl rfl ?_)
                    exact Goes.same hi rfl
                  refine Dw_eq (Value.int .u8 ((UInt8.ofNat ((((script.getD i_1.toNat default).at_).toNat : Int).tmod 4).toNat).toNat : Int)) (fun ρ153 w154 g hle hi ht => ?_) ?_
                  ·
                    obtain ⟨-, hst, -⟩ := hle
                    refine StepOp_plain (run1_u8 (e := ((((script.getD i_1.toNat default).at_).toNat : Int).tmod 4)) (inK_tmod (inK_u8 ((script.getD i_1.toNat default).at_))) (fun _ hk => op_rem (ht 62 rfl) rfl (by decide) hk) ?_)
                    exact Goes.same hi rfl
                  refine Dw_eq (Value.int .i64 ((UInt8.ofNat ((((script.getD i_1.toNat default).at_).toNat : Int).tmod 4).toNat).toNat : Int)) (fun ρ156 w157 g hle hi ht => ?_) ?_
                  ·
                    obtain ⟨-, hst, -⟩ := hle
                    refine StepOp_plain (op_conv_u8 Try.underlying5 Try.underlying3 (ht 63 rfl) (by decide) ?_)
                    exact Goes.same hi rfl
                  refine Dw_eq (Value.pointer (some ⟨b135, 2, none⟩)) (fun ρ159 w160 g hle hi ht => ?_) ?_
                  ·
                    obtain ⟨-, hst, -⟩ := hle
                    refine StepOp_plain (op_fieldAddr ty39 rfl ty5 (by decide) (ht 14 rfl) (rfl : _ = (⟨_, 2, none⟩ : Addr)) ?_)
                    exact Goes.same hi rfl
                  refine Dw_eq (Value.int .u8 (((script.getD i_1.toNat default).byte).toNat : Int)) (fun ρ162 w163 g hle hi ht => ?_) ?_
                  ·
                    obtain ⟨-, hst, -⟩ := hle
                    have hsn := (Step.nx hi).1
                    refine StepOp_plain (op_load (cs := [(Value.bool ((script.getD i_1.toNat default).sync)), (Value.int .u8 (((script.getD i_1.toNat default).at_).toNat : Int)), (Value.int .u8 (((script.getD i_1.toNat default).byte).toNat : Int))]) (i := 0) ty5 hsn (ht 65 rfl) rfl rfl ?_)
                    exact Goes.same hi rfl
                  replace hm := bd hm; obtain ⟨double_1, hv168, hm⟩ := hm
                  refine Dw_op (VD O [(some b135, Obj.cells [(Value.bool ((script.getD i_1.toNat default).sync)), (Value.int .u8 (((script.getD i_1.toNat default).at_).toNat : Int)), (Value.int .u8 (((script.getD i_1.toNat default).byte).toNat : Int))].toArray 39), (k_g86, o_g86), (some b73, o_g89), (some b67, o_g90), (some b61, o_g91), (some b24, Obj.cells [(Value.slice a_y92 v_2.length c_y92), (Value.slice a_y93 v_3.length c_y93), (Value.int .i64 v_4), (Value.bool v_5)].toArray 25)] (vC (rSl rU8)) double_1) (VD.stab _ _) (fun ρ165 w166 g hle hi ht => ?_) ?_
                  ·
                    obtain ⟨-, hst, -⟩ := hle
                    refine StepOp_plain (op_call Try.call24 (c24_overflightlaw44_double (O := ks (ents g ++ [(some b135, Obj.cells [(Value.bool ((script.getD i_1.toNat default).sync)), (Value.int .u8 (((script.getD i_1.toNat default).at_).toNat : Int)), (Value.int .u8 (((script.getD i_1.toNat default).byte).toNat : Int))].toArray 39), (k_g86, o_g86), (some b73, o_g89), (some b67, o_g90), (some b61, o_g91), (some b24, Obj.cells [(Value.slice a_y92 v_2.length c_y92), (Value.slice a_y93 v_3.length c_y93), (Value.int .i64 v_4), (Value.bool v_5)].toArray 25)]) O) (c := (script.getD i_1.toNat default).byte) hi.ltw  hv168) (by simp only [List.map, Array.toList, (show ev _ (.tmp 66) = _ from (ht 66 rfl))] <;> rfl) ?_)
                    rintro v169 w170 ⟨hx171, h172⟩
                    exact Goes.call hi hx171 h172
                  replace hm := bd hm; obtain ⟨write_1, hv180, hm⟩ := hm
                  refine Dw_op (VD O [(some b135, Obj.cells [(Value.bool ((script.getD i_1.toNat default).sync)), (Value.int .u8 (((script.getD i_1.toNat default).at_).toNat : Int)), (Value.int .u8 (((script.getD i_1.toNat default).byte).toNat : Int))].toArray 39), (k_g86, o_g86), (some b73, o_g89), (some b67, o_g90), (some b61, o_g91), (some b24, Obj.cells [(Value.slice a_y92 v_2.length c_y92), (Value.slice a_y93 v_3.length c_y93), (Value.int .i64 v_4), (Value.bool v_5)].toArray 25)] (vT2 (vA rXDisk) (vI .i64)) write_1) (VD.stab _ _) (fun ρ174 w175 g hle hi ht => ?_) ?_
                  ·
                    obtain ⟨-, hst, -⟩ := hle
                    replace f_y92 := f_y92.step hst
                    replace f_y93 := f_y93.step hst
                    have h177 : Vr.vd (vC (rSl rU8)) _ _ _ _ := ht 67 rfl
                    obtain ⟨a_y179, c_y179, q178, f_y179⟩ := un_sl h177
                    refine StepOp_plain (op_call Try.call23 (c23_disk_Write (O := ks (ents g ++ [(some b135, Obj.cells [(Value.bool ((script.getD i_1.toNat default).sync)), (Value.int .u8 (((script.getD i_1.toNat default).at_).toNat : Int)), (Value.int .u8 (((script.getD i_1.toNat default).byte).toNat : Int))].toArray 39), (k_g86, o_g86), (some b73, o_g89), (some b67, o_g90), (some b61, o_g91), (some b24, Obj.cells [(Value.slice a_y92 v_2.length c_y92), (Value.slice a_y93 v_3.length c_y93), (Value.int .i64 v_4), (Value.bool v_5)].toArray 25)]) O) (d := (⟨v_2, v_3, v_4, v_5⟩ : XDisk)) (at_ := ((UInt8.ofNat ((((script.getD i_1.toNat default).at_).toNat : Int).tmod 4).toNat).toNat : Int)) (b := double_1) hi.ltw f_y92 f_y93 r_y94 (inK_ofu8 .i64 (by decide) (UInt8.ofNat ((((script.getD i_1.toNat default).at_).toNat : Int).tmod 4).toNat)) f_y179 hv180) (by simp only [List.map, Array.toList, (show ev _ (.tmp 60) = _ from (ht 60 rfl)), (show ev _ (.tmp 64) = _ from (ht 64 rfl)), (show ev _ (.tmp 67) = _ from q178)] <;> rfl) ?_)
                    rintro v181 w182 ⟨hx183, h184⟩
                    exact Goes.call hi hx183 h184
                  refine Dw_op (VD O [(some b135, Obj.cells [(Value.bool ((script.getD i_1.toNat default).sync)), (Value.int .u8 (((script.getD i_1.toNat default).at_).toNat : Int)), (Value.int .u8 (((script.getD i_1.toNat default).byte).toNat : Int))].toArray 39), (k_g86, o_g86), (some b73, o_g89), (some b67, o_g90), (some b61, o_g91), (some b24, Obj.cells [(Value.slice a_y92 v_2.length c_y92), (Value.slice a_y93 v_3.length c_y93), (Value.int .i64 v_4), (Value.bool v_5)].toArray 25)] (vT2 (vA rXDisk) (vI .i64)) write_1) (VD.stab _ _) (fun ρ186 w187 g hle hi ht => ?_) ?_
                  ·
                    obtain ⟨-, hst, -⟩ := hle
                    have h : Vr.vd (vT2 (vA rXDisk) (vI .i64)) _ _ _ _ := ht 68 rfl
                    refine StepOp_plain (op_move rfl (Goes.same hi h))
                  refine Dw_op (VD O [(some b135, Obj.cells [(Value.bool ((script.getD i_1.toNat default).sync)), (Value.int .u8 (((script.getD i_1.toNat default).at_).toNat : Int)), (Value.int .u8 (((script.getD i_1.toNat default).byte).toNat : Int))].toArray 39), (k_g86, o_g86), (some b73, o_g89), (some b67, o_g90), (some b61, o_g91), (some b24, Obj.cells [(Value.slice a_y92 v_2.length c_y92), (Value.slice a_y93 v_3.length c_y93), (Value.int .i64 v_4), (Value.bool v_5)].toArray 25)] (vA rXDisk) write_1.1) (VD.stab _ _) (fun ρ197 w198 g hle hi ht => ?_) ?_
                  ·
                    obtain ⟨-, hst, -⟩ := hle
                    have h200 : Vr.vd (vT2 (vA rXDisk) (vI .i64)) _ _ _ _ := ht 59 rfl
                    obtain ⟨v202, v203, q201, h204, h205⟩ := h200
                    obtain ⟨_, rfl, ⟨_, _, rfl, ⟨a_y206_sectors, c_y206_sectors, rfl, f_y206_sectors⟩, ⟨_, _, rfl, ⟨a_y206_pending, c_y206_pending, rfl, f_y206_pending⟩, ⟨_, _, rfl, ⟨rfl, r_y206_left⟩, rfl⟩⟩⟩⟩ := h204
                    obtain ⟨rfl, r_y207⟩ := h205
                    refine StepOp_plain (op_extract (v := (Value.agg [(Value.slice a_y206_sectors write_1.1.sectors.length c_y206_sectors), (Value.slice a_y206_pending write_1.1.pending.length c_y206_pending), (Value.int .i64 write_1.1.left), (Value.bool write_1.1.stopped)].toArray)) q201 rfl ?_)
                    exact Goes.same hi (show Vr.vd (vA rXDisk) _ _ _ _ from (mkA (mkVia (mk_pair (mk_sl f_y206_sectors) (mk_pair (mk_sl f_y206_pending) (mk_pair (mk_int r_y206_left) mkBool))))))
                  refine Dw_op (VD O [(some b135, Obj.cells [(Value.bool ((script.getD i_1.toNat default).sync)), (Value.int .u8 (((script.getD i_1.toNat default).at_).toNat : Int)), (Value.int .u8 (((script.getD i_1.toNat default).byte).toNat : Int))].toArray 39), (k_g86, o_g86), (some b73, o_g89), (some b67, o_g90), (some b61, o_g91), (some b24, Obj.cells [(Value.slice a_y92 v_2.length c_y92), (Value.slice a_y93 v_3.length c_y93), (Value.int .i64 v_4), (Value.bool v_5)].toArray 25)] (vI .i64) write_1.2) (VD.stab _ _) (fun ρ208 w209 g hle hi ht => ?_) ?_
                  ·
                    obtain ⟨-, hst, -⟩ := hle
                    have h211 : Vr.vd (vT2 (vA rXDisk) (vI .i64)) _ _ _ _ := ht 59 rfl
                    obtain ⟨v213, v214, q212, h215, h216⟩ := h211
                    obtain ⟨_, rfl, ⟨_, _, rfl, ⟨a_y217_sectors, c_y217_sectors, rfl, f_y217_sectors⟩, ⟨_, _, rfl, ⟨a_y217_pending, c_y217_pending, rfl, f_y217_pending⟩, ⟨_, _, rfl, ⟨rfl, r_y217_left⟩, rfl⟩⟩⟩⟩ := h215
                    obtain ⟨rfl, r_y218⟩ := h216
                    refine StepOp_plain (op_extract (v := (Value.int .i64 write_1.2)) q212 rfl ?_)
                    exact Goes.same hi (show Vr.vd (vI .i64) _ _ _ _ from ⟨rfl, r_y218⟩)
                  refine Dw_op (VN 15 (Obj.cells [(Value.slice none 0 0), (Value.slice none 0 0), (Value.int .i64 0), (Value.bool false)].toArray 25)) (VN.stab _ _) (fun ρ219 w220 g hle hi ht => ?_) ?_
                  ·
                    obtain ⟨-, hst, -⟩ := hle
                    refine StepOp_plain (op_alloc ty25 hi ?_)
                    intro b222 w223 hx226 p224 hs225; exact Goes.new hi p224 hs225 hx226
                  refine Dw_nil fun w231 g232 hl233 hi234 => ?_
                  obtain ⟨-, hst235, -⟩ := hl233
                  rintro _ ⟨b238, rfl, h239⟩
                  rintro v241 h242
                  replace h242 : Vr.vd (vI .i64) _ _ _ _ := h242
                  obtain ⟨rfl, r_y243⟩ := h242
                  rintro v244 h245
                  replace h245 : Vr.vd (vA rXDisk) _ _ _ _ := h245
                  obtain ⟨_, rfl, ⟨_, _, rfl, ⟨a_y246_sectors, c_y246_sectors, rfl, f_y246_sectors⟩, ⟨_, _, rfl, ⟨a_y246_pending, c_y246_pending, rfl, f_y246_pending⟩, ⟨_, _, rfl, ⟨rfl, r_y246_left⟩, rfl⟩⟩⟩⟩ := h245
                  rintro v247 h248
                  replace h248 : Vr.vd (vT2 (vA rXDisk) (vI .i64)) _ _ _ _ := h248
                  obtain ⟨v249, v250, rfl, h251, h252⟩ := h248
                  obtain ⟨_, rfl, ⟨_, _, rfl, ⟨a_y253_sectors, c_y253_sectors, rfl, f_y253_sectors⟩, ⟨_, _, rfl, ⟨a_y253_pending, c_y253_pending, rfl, f_y253_pending⟩, ⟨_, _, rfl, ⟨rfl, r_y253_left⟩, rfl⟩⟩⟩⟩ := h251
                  obtain ⟨rfl, r_y254⟩ := h252
                  rintro v255 h256
                  replace h256 : Vr.vd (vT2 (vA rXDisk) (vI .i64)) _ _ _ _ := h256
                  obtain ⟨v257, v258, rfl, h259, h260⟩ := h256
                  obtain ⟨_, rfl, ⟨_, _, rfl, ⟨a_y261_sectors, c_y261_sectors, rfl, f_y261_sectors⟩, ⟨_, _, rfl, ⟨a_y261_pending, c_y261_pending, rfl, f_y261_pending⟩, ⟨_, _, rfl, ⟨rfl, r_y261_left⟩, rfl⟩⟩⟩⟩ := h259
                  obtain ⟨rfl, r_y262⟩ := h260
                  rintro v263 h264
                  replace h264 : Vr.vd (vC (rSl rU8)) _ _ _ _ := h264
                  obtain ⟨a_y265, c_y265, rfl, f_y265⟩ := un_sl h264
                  rintro _ rfl
                  rintro _ rfl
                  rintro _ rfl
                  rintro _ rfl
                  rintro _ rfl
                  rintro _ rfl
                  rintro _ rfl
                  obtain ⟨hs237, p236⟩ := Step.nx1 hi234 h239
                  have p266 : Step (ks [(some b135, Obj.cells [(Value.bool ((script.getD i_1.toNat default).sync)), (Value.int .u8 (((script.getD i_1.toNat default).at_).toNat : Int)), (Value.int .u8 (((script.getD i_1.toNat default).byte).toNat : Int))].toArray 39), (k_g86, o_g86), (some b73, o_g89), (some b67, o_g90), (some b61, o_g91), (some b24, Obj.cells [(Value.slice a_y92 v_2.length c_y92), (Value.slice a_y93 v_3.length c_y93), (Value.int .i64 v_4), (Value.bool v_5)].toArray 25)] O) w140 (ks [(some b238, Obj.cells [(Value.slice none 0 0), (Value.slice none 0 0), (Value.int .i64 0), (Value.bool false)].toArray 25), (some b135, Obj.cells [(Value.bool ((script.getD i_1.toNat default).sync)), (Value.int .u8 (((script.getD i_1.toNat default).at_).toNat : Int)), (Value.int .u8 (((script.getD i_1.toNat default).byte).toNat : Int))].toArray 39), (k_g86, o_g86), (some b73, o_g89), (some b67, o_g90), (some b61, o_g91), (some b24, Obj.cells [(Value.slice a_y92 v_2.length c_y92), (Value.slice a_y93 v_3.length c_y93), (Value.int .i64 v_4), (Value.bool v_5)].toArray 25)] O) w231 := hst235.trans p236
                  replace f_y246_sectors := f_y246_sectors.step p236
                  replace f_y246_pending := f_y246_pending.step p236
                  replace f_y253_sectors := f_y253_sectors.step p236
                  replace f_y253_pending := f_y253_pending.step p236
                  replace f_y261_sectors := f_y261_sectors.step p236
                  replace f_y261_pending := f_y261_pending.step p236
                  replace f_y265 := f_y265.step p236
                  replace f_script := f_script.step p266
                  replace f_g86 := f_g86.step p266
                  replace f_g89 := f_g89.step p266
                  replace f_g90 := f_g90.step p266
                  replace f_g91 := f_g91.step p266
                  replace f_y92 := f_y92.step p266
                  replace f_y93 := f_y93.step p266
                  replace ch107 := ch107.trans p266
                  replace ch128 := ch128.trans p266
                  clear p266 hs142
                  refine Rg_op_ (op_store (cs := [(Value.slice none 0 0), (Value.slice none 0 0), (Value.int .i64 0), (Value.bool false)]) (vs := [(Value.slice a_y246_sectors write_1.1.sectors.length c_y246_sectors), (Value.slice a_y246_pending write_1.1.pending.length c_y246_pending), (Value.int .i64 write_1.1.left), (Value.bool write_1.1.stopped)]) (cs' := [(Value.slice a_y246_sectors write_1.1.sectors.length c_y246_sectors), (Value.slice a_y246_pending write_1.1.pending.length c_y246_pending), (Value.int .i64 write_1.1.left), (Value.bool write_1.1.stopped)]) (bs' := [(some b238, Obj.cells [(Value.slice a_y246_sectors write_1.1.sectors.length c_y246_sectors), (Value.slice a_y246_pending write_1.1.pending.length c_y246_pending), (Value.int .i64 write_1.1.left), (Value.bool write_1.1.stopped)].toArray 25), (some b135, Obj.cells [(Value.bool ((script.getD i_1.toNat default).sync)), (Value.int .u8 (((script.getD i_1.toNat default).at_).toNat : Int)), (Value.int .u8 (((script.getD i_1.toNat default).byte).toNat : Int))].toArray 39), (k_g86, o_g86), (some b73, o_g89), (some b67, o_g90), (some b61, o_g91), (some b24, Obj.cells [(Value.slice a_y92 v_2.length c_y92), (Value.slice a_y93 v_3.length c_y93), (Value.int .i64 v_4), (Value.bool v_5)].toArray 25)]) (i := 0) ty25 hs237 rfl rfl rfl rfl rfl (le_lit rfl) rfl rfl rfl ?_)
                  intro w267 p268 hs269
                  replace f_script := f_script.step p268
                  replace f_g86 := f_g86.step p268
                  replace f_g89 := f_g89.step p268
                  replace f_g90 := f_g90.step p268
                  replace f_g91 := f_g91.step p268
                  replace f_y92 := f_y92.step p268
                  replace f_y93 := f_y93.step p268
                  replace f_y246_sectors := f_y246_sectors.step p268
                  replace f_y246_pending := f_y246_pending.step p268
                  replace f_y253_sectors := f_y253_sectors.step p268
                  replace f_y253_pending := f_y253_pending.step p268
                  replace f_y261_sectors := f_y261_sectors.step p268
                  replace f_y261_pending := f_y261_pending.step p268
                  replace f_y265 := f_y265.step p268
                  replace ch107 := ch107.trans p268
                  replace ch128 := ch128.trans p268
                  clear p268 hs237
                  refine Rg_op rfl (op_assign (v := (Value.int .i64 write_1.2)) rfl ?_)
                  refine Rg_nil ?_
                  refine Wp_seq ?_
                  refine Wp_seq ?_
                  clear f_y253_sectors f_y253_pending f_y261_sectors f_y261_pending f_y265
                  refine Wp_region ?_  -- 18 law.go:119
                  refine Rg_op rfl (op_move (v := (Value.int .i64 write_1.2)) rfl ?_)
                  refine Rg_op rfl (op_neq rfl rfl ?_)
                  refine Rg_nil ?_
                  refine Wp_cond rfl (fun hc270 => ?_) (fun hc270 => ?_)
                  ·
                    replace hm := bif_t hm hc270
                    refine Wp_seq ?_
                    clear f_script f_g86
                    refine Wp_reset2 [4, 11, 12, 14, 15, 16, 17, 18, 19, 20, 52, 53, 54, 55, 56, 57, 58, 59, 60, 61, 62, 63, 64, 65, 66, 67, 68, 69, 70, 71, 72, 73, 74, 75, 76, 77, 78, 79, 80, 81, 82, 83, 84, 85, 86, 87, 88, 89, 90, 91, 92, 93, 94, 95, 96, 97, 98, 99, 100, 101, 102, 103, 104, 105, 106, 107, 108, 109, 110, 111, 112, 113, 114, 115, 116, 117, 118, 119, 120, 121, 122, 123, 124, 125, 126, 127, 128, 129, 130, 131, 132, 133, 134, 135, 136, 137, 138, 139, 140, 141, 142, 143, 144, 145, 146, 147, 148, 149, 150, 151, 152, 153, 154, 155, 156, 157] [] (updL (mix [4, 11, 12, 13, 14, 15, 16, 17, 18, 19, 20, 46, 47, 48, 49, 50, 51, 52, 53, 54, 55, 56, 57, 58, 59, 60, 61, 62, 63, 64, 65, 66, 67, 68, 69, 70, 71, 72, 73, 74, 75, 76, 77, 78, 79, 80, 81, 82, 83, 84, 85, 86, 87, 88, 89, 90, 91, 92, 93, 94, 95, 96, 97, 98, 99, 100, 101, 102, 103, 104, 105, 106, 107, 108, 109, 110, 111, 112, 113, 114, 115, 116, 117, 118, 119, 120, 121, 122, 123, 124, 125, 126, 127, 128, 129, 130, 131, 132, 133, 134, 135, 136, 137, 138, 139, 140, 141, 142, 143, 144, 145, 146, 147, 148, 149, 150, 151, 152, 153, 154, 155, 156, 157] [] ξ109 (updL ⟨ξ96, []⟩ [(0, (Value.slice a_script script.length c_script)), (5, (Value.pointer (some ⟨b24, 0, none⟩))), (8, (Value.pointer (some ⟨b61, 0, none⟩))), (9, (Value.pointer (some ⟨b67, 0, none⟩))), (10, (Value.pointer (some ⟨b73, 0, none⟩))), (11, (Value.slice (some ⟨b79, 0, none⟩) 0 0)), (12, (Value.int .i64 (left.toNat : Int))), (13, (Value.int .i64 0))])) [(11, (Value.slice a_g86 waiting_1.length c_g86)), (12, (Value.int .i64 room_1)), (13, (Value.int .i64 i_1))]) [] (by repeat (first | with_reducible exact Out.refl _ _ | refine Out.upd ?_ rfl | refine Out.updL ?_ rfl | refine Out.mix' ?_ rfl | exact Out.refl _ _)) rfl trivial fun ξ271 => ?_
                    refine Wp_region ?_  -- 19 law.go:120
                    refine Rg_op rfl (op_assign (v := (Value.bool false)) rfl ?_)
                    refine Rg_nil ?_
                    refine Wp_ret ?_
                    have hz := step_all hs269
                    replace f_g89 := f_g89.step hz
                    replace f_g90 := f_g90.step hz
                    replace f_g91 := f_g91.step hz
                    replace f_y92 := f_y92.step hz
                    replace f_y93 := f_y93.step hz
                    replace f_y246_sectors := f_y246_sectors.step hz
                    replace f_y246_pending := f_y246_pending.step hz
                    refine ⟨_, (show Closes [] _ _ from rfl), [(Value.bool false)], ⟨rfl, trivial⟩, hs269.ext, ?_⟩
                    exact Vr.eq (a := vB) (x := false) rfl (Option.some.inj hm)
                  ·
                    replace hm := bif_f hm hc270
                    refine Wp_skip ?_
                    refine Wp_seq ?_
                    refine Wp_reset2 [4, 11, 12, 14, 15, 16, 17, 18, 19, 20, 52, 53, 54, 55, 56, 57, 58, 59, 60, 61, 62, 63, 64, 65, 66, 67, 68, 69, 70, 71, 72, 73, 74, 75, 76, 77, 78, 79, 80, 81, 82, 83, 84, 85, 86, 87, 88, 89, 90, 91, 92, 93, 94, 95, 96, 97, 98, 99, 100, 101, 102, 103, 104, 105, 106, 107, 108, 109, 110, 111, 112, 113, 114, 115, 116, 117, 118, 119, 120, 121, 122, 123, 124, 125, 126, 127, 128, 129, 130, 131, 132, 133, 134, 135, 136, 137, 138, 139, 140, 141, 142, 143, 144, 145, 146, 147, 148, 149, 150, 151, 152, 153, 154, 155, 156, 157] [] (updL (mix [4, 11, 12, 13, 14, 15, 16, 17, 18, 19, 20, 46, 47, 48, 49, 50, 51, 52, 53, 54, 55, 56, 57, 58, 59, 60, 61, 62, 63, 64, 65, 66, 67, 68, 69, 70, 71, 72, 73, 74, 75, 76, 77, 78, 79, 80, 81, 82, 83, 84, 85, 86, 87, 88, 89, 90, 91, 92, 93, 94, 95, 96, 97, 98, 99, 100, 101, 102, 103, 104, 105, 106, 107, 108, 109, 110, 111, 112, 113, 114, 115, 116, 117, 118, 119, 120, 121, 122, 123, 124, 125, 126, 127, 128, 129, 130, 131, 132, 133, 134, 135, 136, 137, 138, 139, 140, 141, 142, 143, 144, 145, 146, 147, 148, 149, 150, 151, 152, 153, 154, 155, 156, 157] [] ξ109 (updL ⟨ξ96, []⟩ [(0, (Value.slice a_script script.length c_script)), (5, (Value.pointer (some ⟨b24, 0, none⟩))), (8, (Value.pointer (some ⟨b61, 0, none⟩))), (9, (Value.pointer (some ⟨b67, 0, none⟩))), (10, (Value.pointer (some ⟨b73, 0, none⟩))), (11, (Value.slice (some ⟨b79, 0, none⟩) 0 0)), (12, (Value.int .i64 (left.toNat : Int))), (13, (Value.int .i64 0))])) [(11, (Value.slice a_g86 waiting_1.length c_g86)), (12, (Value.int .i64 room_1)), (13, (Value.int .i64 i_1))]) [(11, (Value.slice a_g86 waiting_1.length c_g86)), (12, (Value.int .i64 room_1)), (14, (Value.pointer (some ⟨b135, 0, none⟩))), (15, (Value.pointer (some ⟨b238, 0, none⟩)))] (by repeat (first | with_reducible exact Out.refl _ _ | refine Out.upd ?_ rfl | refine Out.updL ?_ rfl | refine Out.mix' ?_ rfl | exact Out.refl _ _)) rfl ⟨rfl, rfl, rfl, rfl, trivial⟩ fun ξ272 => ?_
                    refine Wp_region ?_  -- 20 law.go:122
                    refine Rg_op rfl (op_loadA (cs := [(Value.slice a_y246_sectors write_1.1.sectors.length c_y246_sectors), (Value.slice a_y246_pending write_1.1.pending.length c_y246_pending), (Value.int .i64 write_1.1.left), (Value.bool write_1.1.stopped)]) (vs := [(Value.slice a_y246_sectors write_1.1.sectors.length c_y246_sectors), (Value.slice a_y246_pending write_1.1.pending.length c_y246_pending), (Value.int .i64 write_1.1.left), (Value.bool write_1.1.stopped)]) (i := 0) ty25 hs269 rfl rfl rfl rfl ?_)
                    refine Rg_op_ (op_store (cs := [(Value.slice a_y92 v_2.length c_y92), (Value.slice a_y93 v_3.length c_y93), (Value.int .i64 v_4), (Value.bool v_5)]) (vs := [(Value.slice a_y246_sectors write_1.1.sectors.length c_y246_sectors), (Value.slice a_y246_pending write_1.1.pending.length c_y246_pending), (Value.int .i64 write_1.1.left), (Value.bool write_1.1.stopped)]) (cs' := [(Value.slice a_y246_sectors write_1.1.sectors.length c_y246_sectors), (Value.slice a_y246_pending write_1.1.pending.length c_y246_pending), (Value.int .i64 write_1.1.left), (Value.bool write_1.1.stopped)]) (bs' := [(some b238, Obj.cells [(Value.slice a_y246_sectors write_1.1.sectors.length c_y246_sectors), (Value.slice a_y246_pending write_1.1.pending.length c_y246_pending), (Value.int .i64 write_1.1.left), (Value.bool write_1.1.stopped)].toArray 25), (some b135, Obj.cells [(Value.bool ((script.getD i_1.toNat default).sync)), (Value.int .u8 (((script.getD i_1.toNat default).at_).toNat : Int)), (Value.int .u8 (((script.getD i_1.toNat default).byte).toNat : Int))].toArray 39), (k_g86, o_g86), (some b73, o_g89), (some b67, o_g90), (some b61, o_g91), (some b24, Obj.cells [(Value.slice a_y246_sectors write_1.1.sectors.length c_y246_sectors), (Value.slice a_y246_pending write_1.1.pending.length c_y246_pending), (Value.int .i64 write_1.1.left), (Value.bool write_1.1.stopped)].toArray 25)]) (i := 6) ty25 hs269 rfl rfl rfl rfl rfl (le_lit rfl) rfl rfl rfl ?_)
                    intro w273 p274 hs275
                    replace f_script := f_script.step p274
                    replace f_g86 := f_g86.step p274
                    replace f_g89 := f_g89.step p274
                    replace f_g90 := f_g90.step p274
                    replace f_g91 := f_g91.step p274
                    replace f_y92 := f_y92.step p274
                    replace f_y93 := f_y93.step p274
                    replace f_y246_sectors := f_y246_sectors.step p274
                    replace f_y246_pending := f_y246_pending.step p274
                    replace ch107 := ch107.trans p274
                    replace ch128 := ch128.trans p274
                    clear p274 hs269
                    refine Rg_nil ?_
                    refine Wp_seq ?_
                    clear f_y92 f_y93
                    refine Wp_region ?_  -- 21 law.go:123
                    refine Rg_op rfl (op_fieldAddr ty39 rfl ty5 (by decide) rfl (rfl : _ = (⟨_, 1, none⟩ : Addr)) ?_)
                    refine Rg_op rfl (op_load (cs := [(Value.bool ((script.getD i_1.toNat default).sync)), (Value.int .u8 (((script.getD i_1.toNat default).at_).toNat : Int)), (Value.int .u8 (((script.getD i_1.toNat default).byte).toNat : Int))]) (i := 1) ty5 hs275 rfl rfl rfl ?_)
                    refine Rg_op rfl (run1_u8 (e := ((((script.getD i_1.toNat default).at_).toNat : Int).tmod 4)) (inK_tmod (inK_u8 ((script.getD i_1.toNat default).at_))) (fun _ hk => op_rem rfl rfl (by decide) hk) ?_)
                    refine Rg_op rfl (op_fieldAddr ty39 rfl ty5 (by decide) rfl (rfl : _ = (⟨_, 2, none⟩ : Addr)) ?_)
                    refine Rg_op rfl (op_load (cs := [(Value.bool ((script.getD i_1.toNat default).sync)), (Value.int .u8 (((script.getD i_1.toNat default).at_).toNat : Int)), (Value.int .u8 (((script.getD i_1.toNat default).byte).toNat : Int))]) (i := 1) ty5 hs275 rfl rfl rfl ?_)
                    replace hm := ck_some hm; obtain ⟨hc276, hm⟩ := hm
                    refine Rg_op rfl (op_indexAddrAG ty37 ty5 rfl rfl f_g91 hc276 ?_)
                    refine Rg_op_ (op_storeG (vs := [(Value.int .u8 (((script.getD i_1.toNat default).byte).toNat : Int))]) (i := 5) ty5 rfl hs275 rfl rfl rfl rfl f_g91 hc276 mkU8 ?_)
                    intro w277 o280 p278 hs279 f281
                    replace f_script := f_script.step p278
                    replace f_g86 := f_g86.step p278
                    replace f_g89 := f_g89.step p278
                    replace f_g90 := f_g90.step p278
                    replace f_y246_sectors := f_y246_sectors.step p278
                    replace f_y246_pending := f_y246_pending.step p278
                    replace ch107 := ch107.trans p278
                    replace ch128 := ch128.trans p278
                    clear p278 hs275
                    refine Rg_nil ?_
                    refine Wp_region ?_  -- 22 law.go:124
                    refine Rg_op rfl (op_move (v := (Value.slice a_g86 waiting_1.length c_g86)) rfl ?_)
                    refine Rg_op rfl (op_loadA (cs := [(Value.bool ((script.getD i_1.toNat default).sync)), (Value.int .u8 (((script.getD i_1.toNat default).at_).toNat : Int)), (Value.int .u8 (((script.getD i_1.toNat default).byte).toNat : Int))]) (vs := [(Value.bool ((script.getD i_1.toNat default).sync)), (Value.int .u8 (((script.getD i_1.toNat default).at_).toNat : Int)), (Value.int .u8 (((script.getD i_1.toNat default).byte).toNat : Int))]) (i := 1) ty39 hs279 rfl rfl rfl rfl ?_)
                    refine Rg_op rfl (op_buildSlice (cs := [(Value.bool ((script.getD i_1.toNat default).sync)), (Value.int .u8 (((script.getD i_1.toNat default).at_).toNat : Int)), (Value.int .u8 (((script.getD i_1.toNat default).byte).toNat : Int))]) (parts := [(0, .tmp 81)]) ty35 ty39 hs279 (by decide) rfl ?_)
                    intro b282 w283 hx286 p284 hs285
                    replace f_script := f_script.step p284
                    replace f_g86 := f_g86.step p284
                    replace f_g89 := f_g89.step p284
                    replace f_g90 := f_g90.step p284
                    replace f_y246_sectors := f_y246_sectors.step p284
                    replace f_y246_pending := f_y246_pending.step p284
                    replace f281 := f281.step p284
                    replace ch107 := ch107.trans p284
                    replace ch128 := ch128.trans p284
                    clear p284 hs279
                    replace hm := ck_some hm; obtain ⟨hc288, hm⟩ := hm
                    refine Rg_op rfl (op_append (q := rXAct) (i := 3) (xs := waiting_1) (ys := [(script.getD i_1.toNat default)]) (news := [(Value.bool ((script.getD i_1.toNat default).sync)), (Value.int .u8 (((script.getD i_1.toNat default).at_).toNat : Int)), (Value.int .u8 (((script.getD i_1.toNat default).byte).toNat : Int))]) ty35 ty39 rfl (by decide) hs285 rfl rfl f_g86 rfl (Src.owned' (len := 3) (hs285.get (i := 0) rfl) rfl) (show Els rXAct _ _ [(Value.bool ((script.getD i_1.toNat default).sync)), (Value.int .u8 (((script.getD i_1.toNat default).at_).toNat : Int)), (Value.int .u8 (((script.getD i_1.toNat default).byte).toNat : Int))] [(script.getD i_1.toNat default)] from ⟨_, _, rfl, (mkVia (mk_pair mkBool (mk_pair mkU8 mkU8))), Els.nil⟩) hc288 (by have := hc288; simp only [maxLen]; omega) ?_)
                    intro a292 c293 k294 o295 w289 p290 hs291 f296
                    replace f_script := f_script.step p290
                    replace f_g89 := f_g89.step p290
                    replace f_g90 := f_g90.step p290
                    replace f_y246_sectors := f_y246_sectors.step p290
                    replace f_y246_pending := f_y246_pending.step p290
                    replace f281 := f281.step p290
                    replace ch107 := ch107.trans p290
                    replace ch128 := ch128.trans p290
                    clear p290 hs285
                    have hs297 := hs291.drop 0
                    replace f_script := f_script.step (Step.drop _ _ [(some b282, Obj.cells [(Value.bool ((script.getD i_1.toNat default).sync)), (Value.int .u8 (((script.getD i_1.toNat default).at_).toNat : Int)), (Value.int .u8 (((script.getD i_1.toNat default).byte).toNat : Int))].toArray 39), (some b238, Obj.cells [(Value.slice a_y246_sectors write_1.1.sectors.length c_y246_sectors), (Value.slice a_y246_pending write_1.1.pending.length c_y246_pending), (Value.int .i64 write_1.1.left), (Value.bool write_1.1.stopped)].toArray 25), (some b135, Obj.cells [(Value.bool ((script.getD i_1.toNat default).sync)), (Value.int .u8 (((script.getD i_1.toNat default).at_).toNat : Int)), (Value.int .u8 (((script.getD i_1.toNat default).byte).toNat : Int))].toArray 39), (k294, o295), (some b73, o_g89), (some b67, o_g90), (some b61, o280), (some b24, Obj.cells [(Value.slice a_y246_sectors write_1.1.sectors.length c_y246_sectors), (Value.slice a_y246_pending write_1.1.pending.length c_y246_pending), (Value.int .i64 write_1.1.left), (Value.bool write_1.1.stopped)].toArray 25)] 0)
                    replace f_g89 := f_g89.step (Step.drop _ _ [(some b282, Obj.cells [(Value.bool ((script.getD i_1.toNat default).sync)), (Value.int .u8 (((script.getD i_1.toNat default).at_).toNat : Int)), (Value.int .u8 (((script.getD i_1.toNat default).byte).toNat : Int))].toArray 39), (some b238, Obj.cells [(Value.slice a_y246_sectors write_1.1.sectors.length c_y246_sectors), (Value.slice a_y246_pending write_1.1.pending.length c_y246_pending), (Value.int .i64 write_1.1.left), (Value.bool write_1.1.stopped)].toArray 25), (some b135, Obj.cells [(Value.bool ((script.getD i_1.toNat default).sync)), (Value.int .u8 (((script.getD i_1.toNat default).at_).toNat : Int)), (Value.int .u8 (((script.getD i_1.toNat default).byte).toNat : Int))].toArray 39), (k294, o295), (some b73, o_g89), (some b67, o_g90), (some b61, o280), (some b24, Obj.cells [(Value.slice a_y246_sectors write_1.1.sectors.length c_y246_sectors), (Value.slice a_y246_pending write_1.1.pending.length c_y246_pending), (Value.int .i64 write_1.1.left), (Value.bool write_1.1.stopped)].toArray 25)] 0)
                    replace f_g90 := f_g90.step (Step.drop _ _ [(some b282, Obj.cells [(Value.bool ((script.getD i_1.toNat default).sync)), (Value.int .u8 (((script.getD i_1.toNat default).at_).toNat : Int)), (Value.int .u8 (((script.getD i_1.toNat default).byte).toNat : Int))].toArray 39), (some b238, Obj.cells [(Value.slice a_y246_sectors write_1.1.sectors.length c_y246_sectors), (Value.slice a_y246_pending write_1.1.pending.length c_y246_pending), (Value.int .i64 write_1.1.left), (Value.bool write_1.1.stopped)].toArray 25), (some b135, Obj.cells [(Value.bool ((script.getD i_1.toNat default).sync)), (Value.int .u8 (((script.getD i_1.toNat default).at_).toNat : Int)), (Value.int .u8 (((script.getD i_1.toNat default).byte).toNat : Int))].toArray 39), (k294, o295), (some b73, o_g89), (some b67, o_g90), (some b61, o280), (some b24, Obj.cells [(Value.slice a_y246_sectors write_1.1.sectors.length c_y246_sectors), (Value.slice a_y246_pending write_1.1.pending.length c_y246_pending), (Value.int .i64 write_1.1.left), (Value.bool write_1.1.stopped)].toArray 25)] 0)
                    replace f_y246_sectors := f_y246_sectors.step (Step.drop _ _ [(some b282, Obj.cells [(Value.bool ((script.getD i_1.toNat default).sync)), (Value.int .u8 (((script.getD i_1.toNat default).at_).toNat : Int)), (Value.int .u8 (((script.getD i_1.toNat default).byte).toNat : Int))].toArray 39), (some b238, Obj.cells [(Value.slice a_y246_sectors write_1.1.sectors.length c_y246_sectors), (Value.slice a_y246_pending write_1.1.pending.length c_y246_pending), (Value.int .i64 write_1.1.left), (Value.bool write_1.1.stopped)].toArray 25), (some b135, Obj.cells [(Value.bool ((script.getD i_1.toNat default).sync)), (Value.int .u8 (((script.getD i_1.toNat default).at_).toNat : Int)), (Value.int .u8 (((script.getD i_1.toNat default).byte).toNat : Int))].toArray 39), (k294, o295), (some b73, o_g89), (some b67, o_g90), (some b61, o280), (some b24, Obj.cells [(Value.slice a_y246_sectors write_1.1.sectors.length c_y246_sectors), (Value.slice a_y246_pending write_1.1.pending.length c_y246_pending), (Value.int .i64 write_1.1.left), (Value.bool write_1.1.stopped)].toArray 25)] 0)
                    replace f_y246_pending := f_y246_pending.step (Step.drop _ _ [(some b282, Obj.cells [(Value.bool ((script.getD i_1.toNat default).sync)), (Value.int .u8 (((script.getD i_1.toNat default).at_).toNat : Int)), (Value.int .u8 (((script.getD i_1.toNat default).byte).toNat : Int))].toArray 39), (some b238, Obj.cells [(Value.slice a_y246_sectors write_1.1.sectors.length c_y246_sectors), (Value.slice a_y246_pending write_1.1.pending.length c_y246_pending), (Value.int .i64 write_1.1.left), (Value.bool write_1.1.stopped)].toArray 25), (some b135, Obj.cells [(Value.bool ((script.getD i_1.toNat default).sync)), (Value.int .u8 (((script.getD i_1.toNat default).at_).toNat : Int)), (Value.int .u8 (((script.getD i_1.toNat default).byte).toNat : Int))].toArray 39), (k294, o295), (some b73, o_g89), (some b67, o_g90), (some b61, o280), (some b24, Obj.cells [(Value.slice a_y246_sectors write_1.1.sectors.length c_y246_sectors), (Value.slice a_y246_pending write_1.1.pending.length c_y246_pending), (Value.int .i64 write_1.1.left), (Value.bool write_1.1.stopped)].toArray 25)] 0)
                    replace f281 := f281.step (Step.drop _ _ [(some b282, Obj.cells [(Value.bool ((script.getD i_1.toNat default).sync)), (Value.int .u8 (((script.getD i_1.toNat default).at_).toNat : Int)), (Value.int .u8 (((script.getD i_1.toNat default).byte).toNat : Int))].toArray 39), (some b238, Obj.cells [(Value.slice a_y246_sectors write_1.1.sectors.length c_y246_sectors), (Value.slice a_y246_pending write_1.1.pending.length c_y246_pending), (Value.int .i64 write_1.1.left), (Value.bool write_1.1.stopped)].toArray 25), (some b135, Obj.cells [(Value.bool ((script.getD i_1.toNat default).sync)), (Value.int .u8 (((script.getD i_1.toNat default).at_).toNat : Int)), (Value.int .u8 (((script.getD i_1.toNat default).byte).toNat : Int))].toArray 39), (k294, o295), (some b73, o_g89), (some b67, o_g90), (some b61, o280), (some b24, Obj.cells [(Value.slice a_y246_sectors write_1.1.sectors.length c_y246_sectors), (Value.slice a_y246_pending write_1.1.pending.length c_y246_pending), (Value.int .i64 write_1.1.left), (Value.bool write_1.1.stopped)].toArray 25)] 0)
                    replace f296 := f296.step (Step.drop _ _ [(some b282, Obj.cells [(Value.bool ((script.getD i_1.toNat default).sync)), (Value.int .u8 (((script.getD i_1.toNat default).at_).toNat : Int)), (Value.int .u8 (((script.getD i_1.toNat default).byte).toNat : Int))].toArray 39), (some b238, Obj.cells [(Value.slice a_y246_sectors write_1.1.sectors.length c_y246_sectors), (Value.slice a_y246_pending write_1.1.pending.length c_y246_pending), (Value.int .i64 write_1.1.left), (Value.bool write_1.1.stopped)].toArray 25), (some b135, Obj.cells [(Value.bool ((script.getD i_1.toNat default).sync)), (Value.int .u8 (((script.getD i_1.toNat default).at_).toNat : Int)), (Value.int .u8 (((script.getD i_1.toNat default).byte).toNat : Int))].toArray 39), (k294, o295), (some b73, o_g89), (some b67, o_g90), (some b61, o280), (some b24, Obj.cells [(Value.slice a_y246_sectors write_1.1.sectors.length c_y246_sectors), (Value.slice a_y246_pending write_1.1.pending.length c_y246_pending), (Value.int .i64 write_1.1.left), (Value.bool write_1.1.stopped)].toArray 25)] 0)
                    replace ch107 := ch107.trans (Step.drop _ _ [(some b282, Obj.cells [(Value.bool ((script.getD i_1.toNat default).sync)), (Value.int .u8 (((script.getD i_1.toNat default).at_).toNat : Int)), (Value.int .u8 (((script.getD i_1.toNat default).byte).toNat : Int))].toArray 39), (some b238, Obj.cells [(Value.slice a_y246_sectors write_1.1.sectors.length c_y246_sectors), (Value.slice a_y246_pending write_1.1.pending.length c_y246_pending), (Value.int .i64 write_1.1.left), (Value.bool write_1.1.stopped)].toArray 25), (some b135, Obj.cells [(Value.bool ((script.getD i_1.toNat default).sync)), (Value.int .u8 (((script.getD i_1.toNat default).at_).toNat : Int)), (Value.int .u8 (((script.getD i_1.toNat default).byte).toNat : Int))].toArray 39), (k294, o295), (some b73, o_g89), (some b67, o_g90), (some b61, o280), (some b24, Obj.cells [(Value.slice a_y246_sectors write_1.1.sectors.length c_y246_sectors), (Value.slice a_y246_pending write_1.1.pending.length c_y246_pending), (Value.int .i64 write_1.1.left), (Value.bool write_1.1.stopped)].toArray 25)] 0)
                    replace ch128 := ch128.trans (Step.drop _ _ [(some b282, Obj.cells [(Value.bool ((script.getD i_1.toNat default).sync)), (Value.int .u8 (((script.getD i_1.toNat default).at_).toNat : Int)), (Value.int .u8 (((script.getD i_1.toNat default).byte).toNat : Int))].toArray 39), (some b238, Obj.cells [(Value.slice a_y246_sectors write_1.1.sectors.length c_y246_sectors), (Value.slice a_y246_pending write_1.1.pending.length c_y246_pending), (Value.int .i64 write_1.1.left), (Value.bool write_1.1.stopped)].toArray 25), (some b135, Obj.cells [(Value.bool ((script.getD i_1.toNat default).sync)), (Value.int .u8 (((script.getD i_1.toNat default).at_).toNat : Int)), (Value.int .u8 (((script.getD i_1.toNat default).byte).toNat : Int))].toArray 39), (k294, o295), (some b73, o_g89), (some b67, o_g90), (some b61, o280), (some b24, Obj.cells [(Value.slice a_y246_sectors write_1.1.sectors.length c_y246_sectors), (Value.slice a_y246_pending write_1.1.pending.length c_y246_pending), (Value.int .i64 write_1.1.left), (Value.bool write_1.1.stopped)].toArray 25)] 0)
                    clear hs291
                    refine Rg_op rfl (op_assign (v := (Value.slice a292 (waiting_1 ++ [(script.getD i_1.toNat default)]).length c293)) rfl ?_)
                    refine Rg_nil ?_
                    refine Wp_seq ?_
                    refine Wp_region ?_  -- 38 law.go:144
                    refine Rg_op rfl (op_loadA (cs := [(Value.slice a_y246_sectors write_1.1.sectors.length c_y246_sectors), (Value.slice a_y246_pending write_1.1.pending.length c_y246_pending), (Value.int .i64 write_1.1.left), (Value.bool write_1.1.stopped)]) (vs := [(Value.slice a_y246_sectors write_1.1.sectors.length c_y246_sectors), (Value.slice a_y246_pending write_1.1.pending.length c_y246_pending), (Value.int .i64 write_1.1.left), (Value.bool write_1.1.stopped)]) (i := 6) ty25 hs297 rfl rfl rfl rfl ?_)
                    replace hm := ck_some hm; obtain ⟨hc298, hm⟩ := hm
                    refine Rg_op rfl (op_loadArr (i := 5) ty37 rfl hs297 rfl rfl f281 hc298 ?_)
                    intro s299 f300
                    replace hm := ck_some hm; obtain ⟨hc301, hm⟩ := hm
                    refine Rg_op rfl (op_loadArr (i := 5) ty37 rfl hs297 rfl rfl f281 hc301 ?_)
                    intro s302 f303
                    replace hm := bd hm; obtain ⟨holds_1, hv304, hm⟩ := hm
                    refine Rg_op rfl (op_call Try.call26 (c26_overflightlaw44_holds (d := write_1.1) (first := (arr_3.set ((UInt8.ofNat ((((script.getD i_1.toNat default).at_).toNat : Int).tmod 4).toNat).toNat : Int).toNat ((script.getD i_1.toNat default).byte))) (second := (arr_3.set ((UInt8.ofNat ((((script.getD i_1.toNat default).at_).toNat : Int).tmod 4).toNat).toNat : Int).toNat ((script.getD i_1.toNat default).byte))) hs297.ltw f_y246_sectors f_y246_pending r_y246_left f300 f303 hv304) rfl ?_)
                    rintro v305 w306 ⟨hx307, h308⟩
                    have hs309 := hs297.call hx307
                    have p310 := Step.ext (O := ks [(some b238, Obj.cells [(Value.slice a_y246_sectors write_1.1.sectors.length c_y246_sectors), (Value.slice a_y246_pending write_1.1.pending.length c_y246_pending), (Value.int .i64 write_1.1.left), (Value.bool write_1.1.stopped)].toArray 25), (some b135, Obj.cells [(Value.bool ((script.getD i_1.toNat default).sync)), (Value.int .u8 (((script.getD i_1.toNat default).at_).toNat : Int)), (Value.int .u8 (((script.getD i_1.toNat default).byte).toNat : Int))].toArray 39), (k294, o295), (some b73, o_g89), (some b67, o_g90), (some b61, o280), (some b24, Obj.cells [(Value.slice a_y246_sectors write_1.1.sectors.length c_y246_sectors), (Value.slice a_y246_pending write_1.1.pending.length c_y246_pending), (Value.int .i64 write_1.1.left), (Value.bool write_1.1.stopped)].toArray 25)] O) hx307
                    clear hx307
                    replace f_script := f_script.step p310
                    replace f_g89 := f_g89.step p310
                    replace f_g90 := f_g90.step p310
                    replace f_y246_sectors := f_y246_sectors.step p310
                    replace f_y246_pending := f_y246_pending.step p310
                    replace f281 := f281.step p310
                    replace f296 := f296.step p310
                    replace f300 := f300.step p310
                    replace f303 := f303.step p310
                    replace ch107 := ch107.trans p310
                    replace ch128 := ch128.trans p310
                    clear p310 hs297
                    obtain rfl := h308
                    refine Rg_op rfl (op_not rfl ?_)
                    refine Rg_nil ?_
                    refine Wp_cond rfl (fun hc312 => ?_) (fun hc312 => ?_)
                    ·
                      replace hm := bif_t hm hc312
                      refine Wp_seq ?_
                      clear f_script f296 f300 f303
                      refine Wp_region ?_  -- 39 law.go:145
                      refine Rg_op rfl (op_assign (v := (Value.bool false)) rfl ?_)
                      refine Rg_nil ?_
                      refine Wp_ret ?_
                      have hz := step_all hs309
                      replace f_g89 := f_g89.step hz
                      replace f_g90 := f_g90.step hz
                      replace f_y246_sectors := f_y246_sectors.step hz
                      replace f_y246_pending := f_y246_pending.step hz
                      replace f281 := f281.step hz
                      refine ⟨_, (show Closes [] _ _ from rfl), [(Value.bool false)], ⟨rfl, trivial⟩, hs309.ext, ?_⟩
                      exact Vr.eq (a := vB) (x := false) rfl (Option.some.inj hm)
                    ·
                      replace hm := bif_f hm hc312
                      refine Wp_skip ?_
                      have hs313 := hs309.drop 1
                      replace f_script := f_script.step (Step.drop _ _ [(some b238, Obj.cells [(Value.slice a_y246_sectors write_1.1.sectors.length c_y246_sectors), (Value.slice a_y246_pending write_1.1.pending.length c_y246_pending), (Value.int .i64 write_1.1.left), (Value.bool write_1.1.stopped)].toArray 25), (some b135, Obj.cells [(Value.bool ((script.getD i_1.toNat default).sync)), (Value.int .u8 (((script.getD i_1.toNat default).at_).toNat : Int)), (Value.int .u8 (((script.getD i_1.toNat default).byte).toNat : Int))].toArray 39), (k294, o295), (some b73, o_g89), (some b67, o_g90), (some b61, o280), (some b24, Obj.cells [(Value.slice a_y246_sectors write_1.1.sectors.length c_y246_sectors), (Value.slice a_y246_pending write_1.1.pending.length c_y246_pending), (Value.int .i64 write_1.1.left), (Value.bool write_1.1.stopped)].toArray 25)] 1)
                      replace f_g89 := f_g89.step (Step.drop _ _ [(some b238, Obj.cells [(Value.slice a_y246_sectors write_1.1.sectors.length c_y246_sectors), (Value.slice a_y246_pending write_1.1.pending.length c_y246_pending), (Value.int .i64 write_1.1.left), (Value.bool write_1.1.stopped)].toArray 25), (some b135, Obj.cells [(Value.bool ((script.getD i_1.toNat default).sync)), (Value.int .u8 (((script.getD i_1.toNat default).at_).toNat : Int)), (Value.int .u8 (((script.getD i_1.toNat default).byte).toNat : Int))].toArray 39), (k294, o295), (some b73, o_g89), (some b67, o_g90), (some b61, o280), (some b24, Obj.cells [(Value.slice a_y246_sectors write_1.1.sectors.length c_y246_sectors), (Value.slice a_y246_pending write_1.1.pending.length c_y246_pending), (Value.int .i64 write_1.1.left), (Value.bool write_1.1.stopped)].toArray 25)] 1)
                      replace f_g90 := f_g90.step (Step.drop _ _ [(some b238, Obj.cells [(Value.slice a_y246_sectors write_1.1.sectors.length c_y246_sectors), (Value.slice a_y246_pending write_1.1.pending.length c_y246_pending), (Value.int .i64 write_1.1.left), (Value.bool write_1.1.stopped)].toArray 25), (some b135, Obj.cells [(Value.bool ((script.getD i_1.toNat default).sync)), (Value.int .u8 (((script.getD i_1.toNat default).at_).toNat : Int)), (Value.int .u8 (((script.getD i_1.toNat default).byte).toNat : Int))].toArray 39), (k294, o295), (some b73, o_g89), (some b67, o_g90), (some b61, o280), (some b24, Obj.cells [(Value.slice a_y246_sectors write_1.1.sectors.length c_y246_sectors), (Value.slice a_y246_pending write_1.1.pending.length c_y246_pending), (Value.int .i64 write_1.1.left), (Value.bool write_1.1.stopped)].toArray 25)] 1)
                      replace f_y246_sectors := f_y246_sectors.step (Step.drop _ _ [(some b238, Obj.cells [(Value.slice a_y246_sectors write_1.1.sectors.length c_y246_sectors), (Value.slice a_y246_pending write_1.1.pending.length c_y246_pending), (Value.int .i64 write_1.1.left), (Value.bool write_1.1.stopped)].toArray 25), (some b135, Obj.cells [(Value.bool ((script.getD i_1.toNat default).sync)), (Value.int .u8 (((script.getD i_1.toNat default).at_).toNat : Int)), (Value.int .u8 (((script.getD i_1.toNat default).byte).toNat : Int))].toArray 39), (k294, o295), (some b73, o_g89), (some b67, o_g90), (some b61, o280), (some b24, Obj.cells [(Value.slice a_y246_sectors write_1.1.sectors.length c_y246_sectors), (Value.slice a_y246_pending write_1.1.pending.length c_y246_pending), (Value.int .i64 write_1.1.left), (Value.bool write_1.1.stopped)].toArray 25)] 1)
                      replace f_y246_pending := f_y246_pending.step (Step.drop _ _ [(some b238, Obj.cells [(Value.slice a_y246_sectors write_1.1.sectors.length c_y246_sectors), (Value.slice a_y246_pending write_1.1.pending.length c_y246_pending), (Value.int .i64 write_1.1.left), (Value.bool write_1.1.stopped)].toArray 25), (some b135, Obj.cells [(Value.bool ((script.getD i_1.toNat default).sync)), (Value.int .u8 (((script.getD i_1.toNat default).at_).toNat : Int)), (Value.int .u8 (((script.getD i_1.toNat default).byte).toNat : Int))].toArray 39), (k294, o295), (some b73, o_g89), (some b67, o_g90), (some b61, o280), (some b24, Obj.cells [(Value.slice a_y246_sectors write_1.1.sectors.length c_y246_sectors), (Value.slice a_y246_pending write_1.1.pending.length c_y246_pending), (Value.int .i64 write_1.1.left), (Value.bool write_1.1.stopped)].toArray 25)] 1)
                      replace f281 := f281.step (Step.drop _ _ [(some b238, Obj.cells [(Value.slice a_y246_sectors write_1.1.sectors.length c_y246_sectors), (Value.slice a_y246_pending write_1.1.pending.length c_y246_pending), (Value.int .i64 write_1.1.left), (Value.bool write_1.1.stopped)].toArray 25), (some b135, Obj.cells [(Value.bool ((script.getD i_1.toNat default).sync)), (Value.int .u8 (((script.getD i_1.toNat default).at_).toNat : Int)), (Value.int .u8 (((script.getD i_1.toNat default).byte).toNat : Int))].toArray 39), (k294, o295), (some b73, o_g89), (some b67, o_g90), (some b61, o280), (some b24, Obj.cells [(Value.slice a_y246_sectors write_1.1.sectors.length c_y246_sectors), (Value.slice a_y246_pending write_1.1.pending.length c_y246_pending), (Value.int .i64 write_1.1.left), (Value.bool write_1.1.stopped)].toArray 25)] 1)
                      replace f296 := f296.step (Step.drop _ _ [(some b238, Obj.cells [(Value.slice a_y246_sectors write_1.1.sectors.length c_y246_sectors), (Value.slice a_y246_pending write_1.1.pending.length c_y246_pending), (Value.int .i64 write_1.1.left), (Value.bool write_1.1.stopped)].toArray 25), (some b135, Obj.cells [(Value.bool ((script.getD i_1.toNat default).sync)), (Value.int .u8 (((script.getD i_1.toNat default).at_).toNat : Int)), (Value.int .u8 (((script.getD i_1.toNat default).byte).toNat : Int))].toArray 39), (k294, o295), (some b73, o_g89), (some b67, o_g90), (some b61, o280), (some b24, Obj.cells [(Value.slice a_y246_sectors write_1.1.sectors.length c_y246_sectors), (Value.slice a_y246_pending write_1.1.pending.length c_y246_pending), (Value.int .i64 write_1.1.left), (Value.bool write_1.1.stopped)].toArray 25)] 1)
                      replace f300 := f300.step (Step.drop _ _ [(some b238, Obj.cells [(Value.slice a_y246_sectors write_1.1.sectors.length c_y246_sectors), (Value.slice a_y246_pending write_1.1.pending.length c_y246_pending), (Value.int .i64 write_1.1.left), (Value.bool write_1.1.stopped)].toArray 25), (some b135, Obj.cells [(Value.bool ((script.getD i_1.toNat default).sync)), (Value.int .u8 (((script.getD i_1.toNat default).at_).toNat : Int)), (Value.int .u8 (((script.getD i_1.toNat default).byte).toNat : Int))].toArray 39), (k294, o295), (some b73, o_g89), (some b67, o_g90), (some b61, o280), (some b24, Obj.cells [(Value.slice a_y246_sectors write_1.1.sectors.length c_y246_sectors), (Value.slice a_y246_pending write_1.1.pending.length c_y246_pending), (Value.int .i64 write_1.1.left), (Value.bool write_1.1.stopped)].toArray 25)] 1)
                      replace f303 := f303.step (Step.drop _ _ [(some b238, Obj.cells [(Value.slice a_y246_sectors write_1.1.sectors.length c_y246_sectors), (Value.slice a_y246_pending write_1.1.pending.length c_y246_pending), (Value.int .i64 write_1.1.left), (Value.bool write_1.1.stopped)].toArray 25), (some b135, Obj.cells [(Value.bool ((script.getD i_1.toNat default).sync)), (Value.int .u8 (((script.getD i_1.toNat default).at_).toNat : Int)), (Value.int .u8 (((script.getD i_1.toNat default).byte).toNat : Int))].toArray 39), (k294, o295), (some b73, o_g89), (some b67, o_g90), (some b61, o280), (some b24, Obj.cells [(Value.slice a_y246_sectors write_1.1.sectors.length c_y246_sectors), (Value.slice a_y246_pending write_1.1.pending.length c_y246_pending), (Value.int .i64 write_1.1.left), (Value.bool write_1.1.stopped)].toArray 25)] 1)
                      replace ch107 := ch107.trans (Step.drop _ _ [(some b238, Obj.cells [(Value.slice a_y246_sectors write_1.1.sectors.length c_y246_sectors), (Value.slice a_y246_pending write_1.1.pending.length c_y246_pending), (Value.int .i64 write_1.1.left), (Value.bool write_1.1.stopped)].toArray 25), (some b135, Obj.cells [(Value.bool ((script.getD i_1.toNat default).sync)), (Value.int .u8 (((script.getD i_1.toNat default).at_).toNat : Int)), (Value.int .u8 (((script.getD i_1.toNat default).byte).toNat : Int))].toArray 39), (k294, o295), (some b73, o_g89), (some b67, o_g90), (some b61, o280), (some b24, Obj.cells [(Value.slice a_y246_sectors write_1.1.sectors.length c_y246_sectors), (Value.slice a_y246_pending write_1.1.pending.length c_y246_pending), (Value.int .i64 write_1.1.left), (Value.bool write_1.1.stopped)].toArray 25)] 1)
                      replace ch128 := ch128.trans (Step.drop _ _ [(some b238, Obj.cells [(Value.slice a_y246_sectors write_1.1.sectors.length c_y246_sectors), (Value.slice a_y246_pending write_1.1.pending.length c_y246_pending), (Value.int .i64 write_1.1.left), (Value.bool write_1.1.stopped)].toArray 25), (some b135, Obj.cells [(Value.bool ((script.getD i_1.toNat default).sync)), (Value.int .u8 (((script.getD i_1.toNat default).at_).toNat : Int)), (Value.int .u8 (((script.getD i_1.toNat default).byte).toNat : Int))].toArray 39), (k294, o295), (some b73, o_g89), (some b67, o_g90), (some b61, o280), (some b24, Obj.cells [(Value.slice a_y246_sectors write_1.1.sectors.length c_y246_sectors), (Value.slice a_y246_pending write_1.1.pending.length c_y246_pending), (Value.int .i64 write_1.1.left), (Value.bool write_1.1.stopped)].toArray 25)] 1)
                      clear hs309
                      have hs314 := hs313.drop 0
                      replace f_script := f_script.step (Step.drop _ _ [(some b238, Obj.cells [(Value.slice a_y246_sectors write_1.1.sectors.length c_y246_sectors), (Value.slice a_y246_pending write_1.1.pending.length c_y246_pending), (Value.int .i64 write_1.1.left), (Value.bool write_1.1.stopped)].toArray 25), (k294, o295), (some b73, o_g89), (some b67, o_g90), (some b61, o280), (some b24, Obj.cells [(Value.slice a_y246_sectors write_1.1.sectors.length c_y246_sectors), (Value.slice a_y246_pending write_1.1.pending.length c_y246_pending), (Value.int .i64 write_1.1.left), (Value.bool write_1.1.stopped)].toArray 25)] 0)
                      replace f_g89 := f_g89.step (Step.drop _ _ [(some b238, Obj.cells [(Value.slice a_y246_sectors write_1.1.sectors.length c_y246_sectors), (Value.slice a_y246_pending write_1.1.pending.length c_y246_pending), (Value.int .i64 write_1.1.left), (Value.bool write_1.1.stopped)].toArray 25), (k294, o295), (some b73, o_g89), (some b67, o_g90), (some b61, o280), (some b24, Obj.cells [(Value.slice a_y246_sectors write_1.1.sectors.length c_y246_sectors), (Value.slice a_y246_pending write_1.1.pending.length c_y246_pending), (Value.int .i64 write_1.1.left), (Value.bool write_1.1.stopped)].toArray 25)] 0)
                      replace f_g90 := f_g90.step (Step.drop _ _ [(some b238, Obj.cells [(Value.slice a_y246_sectors write_1.1.sectors.length c_y246_sectors), (Value.slice a_y246_pending write_1.1.pending.length c_y246_pending), (Value.int .i64 write_1.1.left), (Value.bool write_1.1.stopped)].toArray 25), (k294, o295), (some b73, o_g89), (some b67, o_g90), (some b61, o280), (some b24, Obj.cells [(Value.slice a_y246_sectors write_1.1.sectors.length c_y246_sectors), (Value.slice a_y246_pending write_1.1.pending.length c_y246_pending), (Value.int .i64 write_1.1.left), (Value.bool write_1.1.stopped)].toArray 25)] 0)
                      replace f_y246_sectors := f_y246_sectors.step (Step.drop _ _ [(some b238, Obj.cells [(Value.slice a_y246_sectors write_1.1.sectors.length c_y246_sectors), (Value.slice a_y246_pending write_1.1.pending.length c_y246_pending), (Value.int .i64 write_1.1.left), (Value.bool write_1.1.stopped)].toArray 25), (k294, o295), (some b73, o_g89), (some b67, o_g90), (some b61, o280), (some b24, Obj.cells [(Value.slice a_y246_sectors write_1.1.sectors.length c_y246_sectors), (Value.slice a_y246_pending write_1.1.pending.length c_y246_pending), (Value.int .i64 write_1.1.left), (Value.bool write_1.1.stopped)].toArray 25)] 0)
                      replace f_y246_pending := f_y246_pending.step (Step.drop _ _ [(some b238, Obj.cells [(Value.slice a_y246_sectors write_1.1.sectors.length c_y246_sectors), (Value.slice a_y246_pending write_1.1.pending.length c_y246_pending), (Value.int .i64 write_1.1.left), (Value.bool write_1.1.stopped)].toArray 25), (k294, o295), (some b73, o_g89), (some b67, o_g90), (some b61, o280), (some b24, Obj.cells [(Value.slice a_y246_sectors write_1.1.sectors.length c_y246_sectors), (Value.slice a_y246_pending write_1.1.pending.length c_y246_pending), (Value.int .i64 write_1.1.left), (Value.bool write_1.1.stopped)].toArray 25)] 0)
                      replace f281 := f281.step (Step.drop _ _ [(some b238, Obj.cells [(Value.slice a_y246_sectors write_1.1.sectors.length c_y246_sectors), (Value.slice a_y246_pending write_1.1.pending.length c_y246_pending), (Value.int .i64 write_1.1.left), (Value.bool write_1.1.stopped)].toArray 25), (k294, o295), (some b73, o_g89), (some b67, o_g90), (some b61, o280), (some b24, Obj.cells [(Value.slice a_y246_sectors write_1.1.sectors.length c_y246_sectors), (Value.slice a_y246_pending write_1.1.pending.length c_y246_pending), (Value.int .i64 write_1.1.left), (Value.bool write_1.1.stopped)].toArray 25)] 0)
                      replace f296 := f296.step (Step.drop _ _ [(some b238, Obj.cells [(Value.slice a_y246_sectors write_1.1.sectors.length c_y246_sectors), (Value.slice a_y246_pending write_1.1.pending.length c_y246_pending), (Value.int .i64 write_1.1.left), (Value.bool write_1.1.stopped)].toArray 25), (k294, o295), (some b73, o_g89), (some b67, o_g90), (some b61, o280), (some b24, Obj.cells [(Value.slice a_y246_sectors write_1.1.sectors.length c_y246_sectors), (Value.slice a_y246_pending write_1.1.pending.length c_y246_pending), (Value.int .i64 write_1.1.left), (Value.bool write_1.1.stopped)].toArray 25)] 0)
                      replace f300 := f300.step (Step.drop _ _ [(some b238, Obj.cells [(Value.slice a_y246_sectors write_1.1.sectors.length c_y246_sectors), (Value.slice a_y246_pending write_1.1.pending.length c_y246_pending), (Value.int .i64 write_1.1.left), (Value.bool write_1.1.stopped)].toArray 25), (k294, o295), (some b73, o_g89), (some b67, o_g90), (some b61, o280), (some b24, Obj.cells [(Value.slice a_y246_sectors write_1.1.sectors.length c_y246_sectors), (Value.slice a_y246_pending write_1.1.pending.length c_y246_pending), (Value.int .i64 write_1.1.left), (Value.bool write_1.1.stopped)].toArray 25)] 0)
                      replace f303 := f303.step (Step.drop _ _ [(some b238, Obj.cells [(Value.slice a_y246_sectors write_1.1.sectors.length c_y246_sectors), (Value.slice a_y246_pending write_1.1.pending.length c_y246_pending), (Value.int .i64 write_1.1.left), (Value.bool write_1.1.stopped)].toArray 25), (k294, o295), (some b73, o_g89), (some b67, o_g90), (some b61, o280), (some b24, Obj.cells [(Value.slice a_y246_sectors write_1.1.sectors.length c_y246_sectors), (Value.slice a_y246_pending write_1.1.pending.length c_y246_pending), (Value.int .i64 write_1.1.left), (Value.bool write_1.1.stopped)].toArray 25)] 0)
                      replace ch107 := ch107.trans (Step.drop _ _ [(some b238, Obj.cells [(Value.slice a_y246_sectors write_1.1.sectors.length c_y246_sectors), (Value.slice a_y246_pending write_1.1.pending.length c_y246_pending), (Value.int .i64 write_1.1.left), (Value.bool write_1.1.stopped)].toArray 25), (k294, o295), (some b73, o_g89), (some b67, o_g90), (some b61, o280), (some b24, Obj.cells [(Value.slice a_y246_sectors write_1.1.sectors.length c_y246_sectors), (Value.slice a_y246_pending write_1.1.pending.length c_y246_pending), (Value.int .i64 write_1.1.left), (Value.bool write_1.1.stopped)].toArray 25)] 0)
                      replace ch128 := ch128.trans (Step.drop _ _ [(some b238, Obj.cells [(Value.slice a_y246_sectors write_1.1.sectors.length c_y246_sectors), (Value.slice a_y246_pending write_1.1.pending.length c_y246_pending), (Value.int .i64 write_1.1.left), (Value.bool write_1.1.stopped)].toArray 25), (k294, o295), (some b73, o_g89), (some b67, o_g90), (some b61, o280), (some b24, Obj.cells [(Value.slice a_y246_sectors write_1.1.sectors.length c_y246_sectors), (Value.slice a_y246_pending write_1.1.pending.length c_y246_pending), (Value.int .i64 write_1.1.left), (Value.bool write_1.1.stopped)].toArray 25)] 0)
                      clear hs313
                      exact hK122 _ _ ⟨(waiting_1 ++ [(script.getD i_1.toNat default)]), room_1, arr_1, arr_2, (arr_3.set ((UInt8.ofNat ((((script.getD i_1.toNat default).at_).toNat : Int).tmod 4).toNat).toNat : Int).toNat ((script.getD i_1.toNat default).byte)), write_1.1.sectors, write_1.1.pending, write_1.1.left, write_1.1.stopped, a292, c293, k294, o295, o_g89, o_g90, o280, a_y246_sectors, c_y246_sectors, a_y246_pending, c_y246_pending, _, rfl, ⟨(by repeat (first | with_reducible exact Out.refl _ _ | refine Out.upd ?_ rfl | refine Out.updL ?_ rfl | refine Out.mix' ?_ rfl | exact Out.refl _ _)), rfl, rfl, rfl, trivial⟩, ch128, hs314, f296, r_y87, f_g89, f_g90, f281, f_y246_sectors, f_y246_pending, r_y246_left, hm⟩
                ·
                  replace hm := bif_f hm hc143
                  refine Wp_seq ?_
                  refine Wp_region ?_  -- 23 law.go:126
                  refine Rg_op rfl (op_loadA (cs := [(Value.slice a_y92 v_2.length c_y92), (Value.slice a_y93 v_3.length c_y93), (Value.int .i64 v_4), (Value.bool v_5)]) (vs := [(Value.slice a_y92 v_2.length c_y92), (Value.slice a_y93 v_3.length c_y93), (Value.int .i64 v_4), (Value.bool v_5)]) (i := 5) ty25 hs142 rfl rfl rfl rfl ?_)
                  replace hm := bd hm; obtain ⟨sync_1, hv315, hm⟩ := hm
                  refine Rg_op rfl (op_call Try.call25 (c25_disk_Sync (d := (⟨v_2, v_3, v_4, v_5⟩ : XDisk)) hs142.ltw f_y92 f_y93 r_y94 hv315) rfl ?_)
                  rintro v316 w317 ⟨hx318, h319⟩
                  have hs320 := hs142.call hx318
                  have p321 := Step.ext (O := ks [(some b135, Obj.cells [(Value.bool ((script.getD i_1.toNat default).sync)), (Value.int .u8 (((script.getD i_1.toNat default).at_).toNat : Int)), (Value.int .u8 (((script.getD i_1.toNat default).byte).toNat : Int))].toArray 39), (k_g86, o_g86), (some b73, o_g89), (some b67, o_g90), (some b61, o_g91), (some b24, Obj.cells [(Value.slice a_y92 v_2.length c_y92), (Value.slice a_y93 v_3.length c_y93), (Value.int .i64 v_4), (Value.bool v_5)].toArray 25)] O) hx318
                  clear hx318
                  replace f_script := f_script.step p321
                  replace f_g86 := f_g86.step p321
                  replace f_g89 := f_g89.step p321
                  replace f_g90 := f_g90.step p321
                  replace f_g91 := f_g91.step p321
                  replace f_y92 := f_y92.step p321
                  replace f_y93 := f_y93.step p321
                  replace ch107 := ch107.trans p321
                  replace ch128 := ch128.trans p321
                  clear p321 hs142
                  obtain ⟨v322, v323, rfl, h324, h325⟩ := h319
                  obtain ⟨_, rfl, ⟨_, _, rfl, ⟨a_y326_sectors, c_y326_sectors, rfl, f_y326_sectors⟩, ⟨_, _, rfl, ⟨a_y326_pending, c_y326_pending, rfl, f_y326_pending⟩, ⟨_, _, rfl, ⟨rfl, r_y326_left⟩, rfl⟩⟩⟩⟩ := h324
                  obtain ⟨rfl, r_y327⟩ := h325
                  refine Rg_op rfl (op_move (v := (Value.tuple [(Value.agg [(Value.slice a_y326_sectors sync_1.1.sectors.length c_y326_sectors), (Value.slice a_y326_pending sync_1.1.pending.length c_y326_pending), (Value.int .i64 sync_1.1.left), (Value.bool sync_1.1.stopped)].toArray), (Value.int .i64 sync_1.2)].toArray)) rfl ?_)
                  refine Rg_op rfl (op_extract (v := (Value.agg [(Value.slice a_y326_sectors sync_1.1.sectors.length c_y326_sectors), (Value.slice a_y326_pending sync_1.1.pending.length c_y326_pending), (Value.int .i64 sync_1.1.left), (Value.bool sync_1.1.stopped)].toArray)) rfl rfl ?_)
                  refine Rg_op rfl (op_extract (v := (Value.int .i64 sync_1.2)) rfl rfl ?_)
                  refine Rg_op rfl (op_alloc ty25 hs320 ?_)
                  intro b328 w329 _ p330 hs331
                  replace f_script := f_script.step p330
                  replace f_g86 := f_g86.step p330
                  replace f_g89 := f_g89.step p330
                  replace f_g90 := f_g90.step p330
                  replace f_g91 := f_g91.step p330
                  replace f_y92 := f_y92.step p330
                  replace f_y93 := f_y93.step p330
                  replace f_y326_sectors := f_y326_sectors.step p330
                  replace f_y326_pending := f_y326_pending.step p330
                  replace ch107 := ch107.trans p330
                  replace ch128 := ch128.trans p330
                  clear p330 hs320
                  refine Rg_op_ (op_store (cs := [(Value.slice none 0 0), (Value.slice none 0 0), (Value.int .i64 0), (Value.bool false)]) (vs := [(Value.slice a_y326_sectors sync_1.1.sectors.length c_y326_sectors), (Value.slice a_y326_pending sync_1.1.pending.length c_y326_pending), (Value.int .i64 sync_1.1.left), (Value.bool sync_1.1.stopped)]) (cs' := [(Value.slice a_y326_sectors sync_1.1.sectors.length c_y326_sectors), (Value.slice a_y326_pending sync_1.1.pending.length c_y326_pending), (Value.int .i64 sync_1.1.left), (Value.bool sync_1.1.stopped)]) (bs' := [(some b328, Obj.cells [(Value.slice a_y326_sectors sync_1.1.sectors.length c_y326_sectors), (Value.slice a_y326_pending sync_1.1.pending.length c_y326_pending), (Value.int .i64 sync_1.1.left), (Value.bool sync_1.1.stopped)].toArray 25), (some b135, Obj.cells [(Value.bool ((script.getD i_1.toNat default).sync)), (Value.int .u8 (((script.getD i_1.toNat default).at_).toNat : Int)), (Value.int .u8 (((script.getD i_1.toNat default).byte).toNat : Int))].toArray 39), (k_g86, o_g86), (some b73, o_g89), (some b67, o_g90), (some b61, o_g91), (some b24, Obj.cells [(Value.slice a_y92 v_2.length c_y92), (Value.slice a_y93 v_3.length c_y93), (Value.int .i64 v_4), (Value.bool v_5)].toArray 25)]) (i := 0) ty25 hs331 rfl rfl rfl rfl rfl (le_lit rfl) rfl rfl rfl ?_)
                  intro w333 p334 hs335
                  replace f_script := f_script.step p334
                  replace f_g86 := f_g86.step p334
                  replace f_g89 := f_g89.step p334
                  replace f_g90 := f_g90.step p334
                  replace f_g91 := f_g91.step p334
                  replace f_y92 := f_y92.step p334
                  replace f_y93 := f_y93.step p334
                  replace f_y326_sectors := f_y326_sectors.step p334
                  replace f_y326_pending := f_y326_pending.step p334
                  replace ch107 := ch107.trans p334
                  replace ch128 := ch128.trans p334
                  clear p334 hs331
                  refine Rg_op rfl (op_assign (v := (Value.int .i64 sync_1.2)) rfl ?_)
                  refine Rg_nil ?_
                  refine Wp_seq ?_
                  refine Wp_region ?_  -- 24 law.go:127
                  refine Rg_op rfl (op_move (v := (Value.slice a_g86 waiting_1.length c_g86)) rfl ?_)
                  refine Rg_op rfl (op_len Try.underlying35 rfl ?_)
                  refine Rg_op rfl (op_move (v := (Value.int .i64 room_1)) rfl ?_)
                  refine Rg_op rfl (op_gtr rfl rfl ?_)
                  refine Rg_op rfl (op_assign (v := (Value.bool (decide (room_1 < (waiting_1.length : Int))))) rfl ?_)
                  refine Rg_nil ?_
                  refine Wp_seq ?_
                  refine Wp_seq ?_
                  refine Wp_region ?_  -- 25 law.go:128
                  refine Rg_op rfl (op_assign (v := (Value.int .i64 0)) rfl ?_)
                  refine Rg_nil ?_
                  refine Wp_block ?_
                  refine Wp_reset2 [4, 11, 12, 14, 15, 16, 17, 18, 19, 20, 52, 53, 54, 55, 56, 57, 58, 59, 60, 61, 62, 63, 64, 65, 66, 67, 68, 69, 70, 71, 72, 73, 74, 75, 76, 77, 78, 79, 80, 81, 82, 83, 84, 85, 86, 87, 88, 89, 90, 91, 92, 93, 94, 95, 96, 97, 98, 99, 100, 101, 102, 103, 104, 105, 106, 107, 108, 109, 110, 111, 112, 113, 114, 115, 116, 117, 118, 119, 120, 121, 122, 123, 124, 125, 126, 127, 128, 129, 130, 131, 132, 133, 134, 135, 136, 137, 138, 139, 140, 141, 142, 143, 144, 145, 146, 147, 148, 149, 150, 151, 152, 153, 154, 155, 156, 157] [] (updL (mix [4, 11, 12, 13, 14, 15, 16, 17, 18, 19, 20, 46, 47, 48, 49, 50, 51, 52, 53, 54, 55, 56, 57, 58, 59, 60, 61, 62, 63, 64, 65, 66, 67, 68, 69, 70, 71, 72, 73, 74, 75, 76, 77, 78, 79, 80, 81, 82, 83, 84, 85, 86, 87, 88, 89, 90, 91, 92, 93, 94, 95, 96, 97, 98, 99, 100, 101, 102, 103, 104, 105, 106, 107, 108, 109, 110, 111, 112, 113, 114, 115, 116, 117, 118, 119, 120, 121, 122, 123, 124, 125, 126, 127, 128, 129, 130, 131, 132, 133, 134, 135, 136, 137, 138, 139, 140, 141, 142, 143, 144, 145, 146, 147, 148, 149, 150, 151, 152, 153, 154, 155, 156, 157] [] ξ109 (updL ⟨ξ96, []⟩ [(0, (Value.slice a_script script.length c_script)), (5, (Value.pointer (some ⟨b24, 0, none⟩))), (8, (Value.pointer (some ⟨b61, 0, none⟩))), (9, (Value.pointer (some ⟨b67, 0, none⟩))), (10, (Value.pointer (some ⟨b73, 0, none⟩))), (11, (Value.slice (some ⟨b79, 0, none⟩) 0 0)), (12, (Value.int .i64 (left.toNat : Int))), (13, (Value.int .i64 0))])) [(11, (Value.slice a_g86 waiting_1.length c_g86)), (12, (Value.int .i64 room_1)), (13, (Value.int .i64 i_1))]) [(11, (Value.slice a_g86 waiting_1.length c_g86)), (12, (Value.int .i64 room_1)), (17, (Value.pointer (some ⟨b328, 0, none⟩))), (18, (Value.int .i64 sync_1.2)), (19, (Value.bool (decide (room_1 < (waiting_1.length : Int))))), (20, (Value.int .i64 0))] (by repeat (first | with_reducible exact Out.refl _ _ | refine Out.upd ?_ rfl | refine Out.updL ?_ rfl | refine Out.mix' ?_ rfl | exact Out.refl _ _)) rfl ⟨rfl, rfl, rfl, rfl, rfl, rfl, trivial⟩ fun ξ339 => ?_
                  refine Wp_loopM [20, 93, 94, 95, 96, 97, 98, 99, 100, 101, 102, 103, 104, 105, 106, 107, 108, 109, 110, 111, 112, 113, 114, 115, 116, 117, 118, 119, 120, 121, 122, 123, 124, 125, 126, 127, 128, 129, 130] (fun m fr w' => ∃ (k_1 : Int) (arr_7 : List UInt8) (arr_8 : List UInt8) (o_g337 : Obj) (o_g338 : Obj) (Ebs : Ents), Ebs = [(some b328, Obj.cells [(Value.slice a_y326_sectors sync_1.1.sectors.length c_y326_sectors), (Value.slice a_y326_pending sync_1.1.pending.length c_y326_pending), (Value.int .i64 sync_1.1.left), (Value.bool sync_1.1.stopped)].toArray 25), (some b135, Obj.cells [(Value.bool ((script.getD i_1.toNat default).sync)), (Value.int .u8 (((script.getD i_1.toNat default).at_).toNat : Int)), (Value.int .u8 (((script.getD i_1.toNat default).byte).toNat : Int))].toArray 39), (k_g86, o_g86), (some b73, o_g337), (some b67, o_g338), (some b61, o_g91), (some b24, Obj.cells [(Value.slice a_y92 v_2.length c_y92), (Value.slice a_y93 v_3.length c_y93), (Value.int .i64 v_4), (Value.bool v_5)].toArray 25)] ∧ fr [] [(20, (Value.int .i64 k_1))] ∧ Step (ks [(some b328, Obj.cells [(Value.slice a_y326_sectors sync_1.1.sectors.length c_y326_sectors), (Value.slice a_y326_pending sync_1.1.pending.length c_y326_pending), (Value.int .i64 sync_1.1.left), (Value.bool sync_1.1.stopped)].toArray 25), (some b135, Obj.cells [(Value.bool ((script.getD i_1.toNat default).sync)), (Value.int .u8 (((script.getD i_1.toNat default).at_).toNat : Int)), (Value.int .u8 (((script.getD i_1.toNat default).byte).toNat : Int))].toArray 39), (k_g86, o_g86), (some b73, o_g89), (some b67, o_g90), (some b61, o_g91), (some b24, Obj.cells [(Value.slice a_y92 v_2.length c_y92), (Value.slice a_y93 v_3.length c_y93), (Value.int .i64 v_4), (Value.bool v_5)].toArray 25)] O) w333 (ks Ebs O) w' ∧ St ⟨w, [], []⟩ O w' Ebs ∧ InK .i64 k_1 ∧ Gs rU8 37 w' (ks Ebs O) (some ⟨b73, 0, none⟩) 4 arr_7 (some b73) o_g337 ∧ Gs rU8 37 w' (ks Ebs O) (some ⟨b67, 0, none⟩) 4 arr_8 (some b67) o_g338 ∧ loop3 (m4_overflightlaw44_DiskHistory_B1 left waiting_1 room_1 arr_3 k120 sync_1) m k_1 arr_7 arr_8 = some x) (1000000) ⟨0, arr_1, arr_2, o_g89, o_g90, _, rfl, ⟨Out.refl _ _, rfl, rfl, trivial⟩, Step.refl _ _, hs335, (show InK .i64 0 from by decide), f_g89, f_g90, hm⟩ ?_ ?_
                  · rintro _ _ ⟨_, _, _, _, _, _, _, _, _, _, _, _, _, hm⟩; exact loop3_z hm
                  · rintro m343 K342 hK342 ρ348 w344 ⟨k_1, arr_7, arr_8, o_g337, o_g338, Ebs, hEbs, hfr347, hst346, hs345, r_y336, f_g337, f_g338, hm⟩
                    obtain ⟨sf340, hsf341, hm⟩ := loop3_s hm; unfold m4_overflightlaw44_DiskHistory_B1 at hm
                    subst hEbs; rw [hfr347.eq]; clear hfr347
                    replace f_script := f_script.step hst346
                    replace f_g86 := f_g86.step hst346
                    replace f_g89 := f_g89.step hst346
                    replace f_g90 := f_g90.step hst346
                    replace f_g91 := f_g91.step hst346
                    replace f_y92 := f_y92.step hst346
                    replace f_y93 := f_y93.step hst346
                    replace f_y326_sectors := f_y326_sectors.step hst346
                    replace f_y326_pending := f_y326_pending.step hst346
                    replace ch107 := ch107.trans hst346
                    replace ch128 := ch128.trans hst346
                    have ch349 := hst346
                    refine Wp_seq ?_
                    refine Wp_reset2 [20, 93, 94, 95, 96, 97, 98, 99, 100, 101, 102, 103, 104, 105, 106, 107, 108, 109, 110, 111, 112, 113, 114, 115, 116, 117, 118, 119, 120, 121, 122, 123, 124, 125, 126, 127, 128, 129, 130] [] (updL (mix [4, 11, 12, 14, 15, 16, 17, 18, 19, 20, 52, 53, 54, 55, 56, 57, 58, 59, 60, 61, 62, 63, 64, 65, 66, 67, 68, 69, 70, 71, 72, 73, 74, 75, 76, 77, 78, 79, 80, 81, 82, 83, 84, 85, 86, 87, 88, 89, 90, 91, 92, 93, 94, 95, 96, 97, 98, 99, 100, 101, 102, 103, 104, 105, 106, 107, 108, 109, 110, 111, 112, 113, 114, 115, 116, 117, 118, 119, 120, 121, 122, 123, 124, 125, 126, 127, 128, 129, 130, 131, 132, 133, 134, 135, 136, 137, 138, 139, 140, 141, 142, 143, 144, 145, 146, 147, 148, 149, 150, 151, 152, 153, 154, 155, 156, 157] [] ξ339 (updL (mix [4, 11, 12, 13, 14, 15, 16, 17, 18, 19, 20, 46, 47, 48, 49, 50, 51, 52, 53, 54, 55, 56, 57, 58, 59, 60, 61, 62, 63, 64, 65, 66, 67, 68, 69, 70, 71, 72, 73, 74, 75, 76, 77, 78, 79, 80, 81, 82, 83, 84, 85, 86, 87, 88, 89, 90, 91, 92, 93, 94, 95, 96, 97, 98, 99, 100, 101, 102, 103, 104, 105, 106, 107, 108, 109, 110, 111, 112, 113, 114, 115, 116, 117, 118, 119, 120, 121, 122, 123, 124, 125, 126, 127, 128, 129, 130, 131, 132, 133, 134, 135, 136, 137, 138, 139, 140, 141, 142, 143, 144, 145, 146, 147, 148, 149, 150, 151, 152, 153, 154, 155, 156, 157] [] ξ109 (updL ⟨ξ96, []⟩ [(0, (Value.slice a_script script.length c_script)), (5, (Value.pointer (some ⟨b24, 0, none⟩))), (8, (Value.pointer (some ⟨b61, 0, none⟩))), (9, (Value.pointer (some ⟨b67, 0, none⟩))), (10, (Value.pointer (some ⟨b73, 0, none⟩))), (11, (Value.slice (some ⟨b79, 0, none⟩) 0 0)), (12, (Value.int .i64 (left.toNat : Int))), (13, (Value.int .i64 0))])) [(11, (Value.slice a_g86 waiting_1.length c_g86)), (12, (Value.int .i64 room_1)), (13, (Value.int .i64 i_1))])) [(11, (Value.slice a_g86 waiting_1.length c_g86)), (12, (Value.int .i64 room_1)), (17, (Value.pointer (some ⟨b328, 0, none⟩))), (18, (Value.int .i64 sync_1.2)), (19, (Value.bool (decide (room_1 < (waiting_1.length : Int))))), (20, (Value.int .i64 0))]) [(20, (Value.int .i64 k_1))] (by repeat (first | with_reducible exact Out.refl _ _ | refine Out.upd ?_ rfl | refine Out.updL ?_ rfl | refine Out.mix' ?_ rfl | exact Out.refl _ _)) rfl ⟨rfl, trivial⟩ fun ξ350 => ?_
                    replace hm := jn_elim hm; obtain ⟨k352, hk353, hm⟩ := hm
                    refine Wp_seqJ [93, 94, 95, 96, 97, 98, 99, 100, 101] (fun fr w' => ∃ (v_10 : Bool) (Ebs : Ents), Ebs = [(some b328, Obj.cells [(Value.slice a_y326_sectors sync_1.1.sectors.length c_y326_sectors), (Value.slice a_y326_pending sync_1.1.pending.length c_y326_pending), (Value.int .i64 sync_1.1.left), (Value.bool sync_1.1.stopped)].toArray 25), (some b135, Obj.cells [(Value.bool ((script.getD i_1.toNat default).sync)), (Value.int .u8 (((script.getD i_1.toNat default).at_).toNat : Int)), (Value.int .u8 (((script.getD i_1.toNat default).byte).toNat : Int))].toArray 39), (k_g86, o_g86), (some b73, o_g337), (some b67, o_g338), (some b61, o_g91), (some b24, Obj.cells [(Value.slice a_y92 v_2.length c_y92), (Value.slice a_y93 v_3.length c_y93), (Value.int .i64 v_4), (Value.bool v_5)].toArray 25)] ∧ fr [] [(101, (Value.bool v_10))] ∧ Step (ks [(some b328, Obj.cells [(Value.slice a_y326_sectors sync_1.1.sectors.length c_y326_sectors), (Value.slice a_y326_pending sync_1.1.pending.length c_y326_pending), (Value.int .i64 sync_1.1.left), (Value.bool sync_1.1.stopped)].toArray 25), (some b135, Obj.cells [(Value.bool ((script.getD i_1.toNat default).sync)), (Value.int .u8 (((script.getD i_1.toNat default).at_).toNat : Int)), (Value.int .u8 (((script.getD i_1.toNat default).byte).toNat : Int))].toArray 39), (k_g86, o_g86), (some b73, o_g337), (some b67, o_g338), (some b61, o_g91), (some b24, Obj.cells [(Value.slice a_y92 v_2.length c_y92), (Value.slice a_y93 v_3.length c_y93), (Value.int .i64 v_4), (Value.bool v_5)].toArray 25)] O) w344 (ks Ebs O) w' ∧ St ⟨w, [], []⟩ O w' Ebs ∧ k352 v_10 = some x) ?_ ?_
                    ·
                      rintro ρ359 w355 ⟨v_10, Ebs, hEbs, hfr358, hst357, hs356, hm⟩
                      replace hm := jnE1 hk353 hm
                      subst hEbs; rw [hfr358.eq]; clear hfr358
                      replace f_script := f_script.step hst357
                      replace f_g86 := f_g86.step hst357
                      replace f_g89 := f_g89.step hst357
                      replace f_g90 := f_g90.step hst357
                      replace f_g91 := f_g91.step hst357
                      replace f_y92 := f_y92.step hst357
                      replace f_y93 := f_y93.step hst357
                      replace f_y326_sectors := f_y326_sectors.step hst357
                      replace f_y326_pending := f_y326_pending.step hst357
                      replace f_g337 := f_g337.step hst357
                      replace f_g338 := f_g338.step hst357
                      replace ch107 := ch107.trans hst357
                      replace ch128 := ch128.trans hst357
                      replace ch349 := ch349.trans hst357
                      clear hst357 hs345
                      refine Wp_cond rfl (fun hc360 => ?_) (fun hc360 => ?_)
                      ·
                        replace hm := bif_t hm hc360
                        refine Wp_skip ?_
                        refine Wp_seq ?_
                        refine Wp_block ?_
                        refine Wp_seq ?_
                        clear f_g89 f_g90
                        refine Wp_drawR (g0 := []) (m := 11) (fl := []) (TS_inv hs356) (.inl rfl) rfl (by decide +kernel) ?_  -- 28
                        refine Dw_eq (Value.slice a_g86 waiting_1.length c_g86) (fun ρ361 w362 g hle hi ht => ?_) ?_
                        ·
                          obtain ⟨-, hst, -⟩ := hle
                          refine StepOp_plain (op_move (v := (Value.slice a_g86 waiting_1.length c_g86)) (ht 11 rfl) ?_)
                          exact Goes.same hi rfl
                        refine Dw_eq (Value.int .i64 k_1) (fun ρ364 w365 g hle hi ht => ?_) ?_
                        ·
                          obtain ⟨-, hst, -⟩ := hle
                          refine StepOp_plain (op_move (v := (Value.int .i64 k_1)) (ht 20 rfl) ?_)
                          exact Goes.same hi rfl
                        replace hm := ck_some hm; obtain ⟨hc370, hm⟩ := hm
                        obtain ⟨b371, rfl, rfl⟩ := f_g86.at_ (by omega)
                        refine Dw_eq (Value.pointer (some ⟨b371, k_1.toNat * 3, none⟩)) (fun ρ367 w368 g hle hi ht => ?_) ?_
                        ·
                          obtain ⟨-, hst, -⟩ := hle
                          replace f_g86 := f_g86.step hst
                          refine StepOp_plain (op_indexAddrG ty35 ty39 (ht 104 rfl) (ht 105 rfl) f_g86 hc370 ?_)
                          rintro _ ⟨⟩ -
                          exact Goes.same hi rfl
                        refine Dw_eq (Value.pointer (some ⟨b371, k_1.toNat * 3 + 1, none⟩)) (fun ρ372 w373 g hle hi ht => ?_) ?_
                        ·
                          obtain ⟨-, hst, -⟩ := hle
                          refine StepOp_plain (op_fieldAddr ty39 rfl ty5 (by decide) (ht 106 rfl) (rfl : _ = (⟨_, k_1.toNat * 3 + 1, none⟩ : Addr)) ?_)
                          exact Goes.same hi rfl
                        refine Dw_eq (Value.int .u8 (((waiting_1.getD k_1.toNat default).at_).toNat : Int)) (fun ρ375 w376 g hle hi ht => ?_) ?_
                        ·
                          obtain ⟨-, hst, -⟩ := hle
                          replace f_g86 := f_g86.step hst
                          have hsn := (Step.nx hi).1
                          refine StepOp_plain (op_loadGF (m := k_1) (nn := 3) (off := 1) (i := 2) ty5 rfl hsn rfl (ht 107 rfl) f_g86 hc370 (by decide) ?_)
                          intro vs378 v379 h380 hv381
                          obtain ⟨_, _, rfl, rfl, ⟨_, _, rfl, rfl, rfl⟩⟩ := h380
                          obtain rfl := Option.some.inj hv381
                          exact Goes.same hi rfl
                        refine Dw_eq (Value.int .u8 ((UInt8.ofNat ((((waiting_1.getD k_1.toNat default).at_).toNat : Int).tmod 4).toNat).toNat : Int)) (fun ρ383 w384 g hle hi ht => ?_) ?_
                        ·
                          obtain ⟨-, hst, -⟩ := hle
                          refine StepOp_plain (run1_u8 (e := ((((waiting_1.getD k_1.toNat default).at_).toNat : Int).tmod 4)) (inK_tmod (inK_u8 ((waiting_1.getD k_1.toNat default).at_))) (fun _ hk => op_rem (ht 108 rfl) rfl (by decide) hk) ?_)
                          exact Goes.same hi rfl
                        refine Dw_eq (Value.slice (some ⟨b371, 0, none⟩) waiting_1.length c_g86) (fun ρ386 w387 g hle hi ht => ?_) ?_
                        ·
                          obtain ⟨-, hst, -⟩ := hle
                          refine StepOp_plain (op_move (v := (Value.slice (some ⟨b371, 0, none⟩) waiting_1.length c_g86)) (ht 11 rfl) ?_)
                          exact Goes.same hi rfl
                        refine Dw_eq (Value.int .i64 k_1) (fun ρ389 w390 g hle hi ht => ?_) ?_
                        ·
                          obtain ⟨-, hst, -⟩ := hle
                          refine StepOp_plain (op_move (v := (Value.int .i64 k_1)) (ht 20 rfl) ?_)
                          exact Goes.same hi rfl
                        replace hm := ck_some hm; obtain ⟨hc395, hm⟩ := hm
                        refine Dw_eq (Value.pointer (some ⟨b371, k_1.toNat * 3, none⟩)) (fun ρ392 w393 g hle hi ht => ?_) ?_
                        ·
                          obtain ⟨-, hst, -⟩ := hle
                          replace f_g86 := f_g86.step hst
                          refine StepOp_plain (op_indexAddrG ty35 ty39 (ht 110 rfl) (ht 111 rfl) f_g86 hc395 ?_)
                          rintro _ ⟨⟩ -
                          exact Goes.same hi rfl
                        refine Dw_eq (Value.pointer (some ⟨b371, k_1.toNat * 3 + 2, none⟩)) (fun ρ397 w398 g hle hi ht => ?_) ?_
                        ·
                          obtain ⟨-, hst, -⟩ := hle
                          refine StepOp_plain (op_fieldAddr ty39 rfl ty5 (by decide) (ht 112 rfl) (rfl : _ = (⟨_, k_1.toNat * 3 + 2, none⟩ : Addr)) ?_)
                          exact Goes.same hi rfl
                        refine Dw_eq (Value.int .u8 (((waiting_1.getD k_1.toNat default).byte).toNat : Int)) (fun ρ400 w401 g hle hi ht => ?_) ?_
                        ·
                          obtain ⟨-, hst, -⟩ := hle
                          replace f_g86 := f_g86.step hst
                          have hsn := (Step.nx hi).1
                          refine StepOp_plain (op_loadGF (m := k_1) (nn := 3) (off := 2) (i := 2) ty5 rfl hsn rfl (ht 113 rfl) f_g86 hc395 (by decide) ?_)
                          intro vs403 v404 h405 hv406
                          obtain ⟨_, _, rfl, rfl, ⟨_, _, rfl, rfl, rfl⟩⟩ := h405
                          obtain rfl := Option.some.inj hv406
                          exact Goes.same hi rfl
                        refine Dw_nil fun w412 g413 hl414 hi415 => ?_
                        obtain ⟨-, hst416, -⟩ := hl414
                        obtain ⟨hs418, p417⟩ := Step.nx hi415
                        rintro _ rfl
                        rintro _ rfl
                        rintro _ rfl
                        rintro _ rfl
                        rintro _ rfl
                        rintro _ rfl
                        rintro _ rfl
                        rintro _ rfl
                        rintro _ rfl
                        rintro _ rfl
                        rintro _ rfl
                        have p419 : Step (ks [(some b328, Obj.cells [(Value.slice a_y326_sectors sync_1.1.sectors.length c_y326_sectors), (Value.slice a_y326_pending sync_1.1.pending.length c_y326_pending), (Value.int .i64 sync_1.1.left), (Value.bool sync_1.1.stopped)].toArray 25), (some b135, Obj.cells [(Value.bool ((script.getD i_1.toNat default).sync)), (Value.int .u8 (((script.getD i_1.toNat default).at_).toNat : Int)), (Value.int .u8 (((script.getD i_1.toNat default).byte).toNat : Int))].toArray 39), (some b371, o_g86), (some b73, o_g337), (some b67, o_g338), (some b61, o_g91), (some b24, Obj.cells [(Value.slice a_y92 v_2.length c_y92), (Value.slice a_y93 v_3.length c_y93), (Value.int .i64 v_4), (Value.bool v_5)].toArray 25)] O) w355 (ks [(some b328, Obj.cells [(Value.slice a_y326_sectors sync_1.1.sectors.length c_y326_sectors), (Value.slice a_y326_pending sync_1.1.pending.length c_y326_pending), (Value.int .i64 sync_1.1.left), (Value.bool sync_1.1.stopped)].toArray 25), (some b135, Obj.cells [(Value.bool ((script.getD i_1.toNat default).sync)), (Value.int .u8 (((script.getD i_1.toNat default).at_).toNat : Int)), (Value.int .u8 (((script.getD i_1.toNat default).byte).toNat : Int))].toArray 39), (some b371, o_g86), (some b73, o_g337), (some b67, o_g338), (some b61, o_g91), (some b24, Obj.cells [(Value.slice a_y92 v_2.length c_y92), (Value.slice a_y93 v_3.length c_y93), (Value.int .i64 v_4), (Value.bool v_5)].toArray 25)] O) w412 := hst416.trans p417
                        replace f_script := f_script.step p419
                        replace f_g86 := f_g86.step p419
                        replace f_g91 := f_g91.step p419
                        replace f_y92 := f_y92.step p419
                        replace f_y93 := f_y93.step p419
                        replace f_y326_sectors := f_y326_sectors.step p419
                        replace f_y326_pending := f_y326_pending.step p419
                        replace f_g337 := f_g337.step p419
                        replace f_g338 := f_g338.step p419
                        replace ch107 := ch107.trans p419
                        replace ch128 := ch128.trans p419
                        replace ch349 := ch349.trans p419
                        clear p419 hs356
                        replace hm := ck_some hm; obtain ⟨hc420, hm⟩ := hm
                        refine Rg_op rfl (op_indexAddrAG ty37 ty5 rfl rfl f_g338 hc420 ?_)
                        refine Rg_op_ (op_storeG (vs := [(Value.int .u8 (((waiting_1.getD k_1.toNat default).byte).toNat : Int))]) (i := 4) ty5 rfl hs418 rfl rfl rfl rfl f_g338 hc420 mkU8 ?_)
                        intro w421 o424 p422 hs423 f425
                        replace f_script := f_script.step p422
                        replace f_g86 := f_g86.step p422
                        replace f_g91 := f_g91.step p422
                        replace f_y92 := f_y92.step p422
                        replace f_y93 := f_y93.step p422
                        replace f_y326_sectors := f_y326_sectors.step p422
                        replace f_y326_pending := f_y326_pending.step p422
                        replace f_g337 := f_g337.step p422
                        replace ch107 := ch107.trans p422
                        replace ch128 := ch128.trans p422
                        replace ch349 := ch349.trans p422
                        clear p422 hs418
                        refine Rg_nil ?_
                        refine Wp_seq ?_
                        refine Wp_reset2 [20, 93, 94, 95, 96, 97, 98, 99, 100, 101, 102, 103, 104, 105, 106, 107, 108, 109, 110, 111, 112, 113, 114, 115, 116, 117, 118, 119, 120, 121, 122, 123, 124, 125, 126, 127, 128, 129, 130] [] (updL (mix [4, 11, 12, 14, 15, 16, 17, 18, 19, 20, 52, 53, 54, 55, 56, 57, 58, 59, 60, 61, 62, 63, 64, 65, 66, 67, 68, 69, 70, 71, 72, 73, 74, 75, 76, 77, 78, 79, 80, 81, 82, 83, 84, 85, 86, 87, 88, 89, 90, 91, 92, 93, 94, 95, 96, 97, 98, 99, 100, 101, 102, 103, 104, 105, 106, 107, 108, 109, 110, 111, 112, 113, 114, 115, 116, 117, 118, 119, 120, 121, 122, 123, 124, 125, 126, 127, 128, 129, 130, 131, 132, 133, 134, 135, 136, 137, 138, 139, 140, 141, 142, 143, 144, 145, 146, 147, 148, 149, 150, 151, 152, 153, 154, 155, 156, 157] [] ξ339 (updL (mix [4, 11, 12, 13, 14, 15, 16, 17, 18, 19, 20, 46, 47, 48, 49, 50, 51, 52, 53, 54, 55, 56, 57, 58, 59, 60, 61, 62, 63, 64, 65, 66, 67, 68, 69, 70, 71, 72, 73, 74, 75, 76, 77, 78, 79, 80, 81, 82, 83, 84, 85, 86, 87, 88, 89, 90, 91, 92, 93, 94, 95, 96, 97, 98, 99, 100, 101, 102, 103, 104, 105, 106, 107, 108, 109, 110, 111, 112, 113, 114, 115, 116, 117, 118, 119, 120, 121, 122, 123, 124, 125, 126, 127, 128, 129, 130, 131, 132, 133, 134, 135, 136, 137, 138, 139, 140, 141, 142, 143, 144, 145, 146, 147, 148, 149, 150, 151, 152, 153, 154, 155, 156, 157] [] ξ109 (updL ⟨ξ96, []⟩ [(0, (Value.slice a_script script.length c_script)), (5, (Value.pointer (some ⟨b24, 0, none⟩))), (8, (Value.pointer (some ⟨b61, 0, none⟩))), (9, (Value.pointer (some ⟨b67, 0, none⟩))), (10, (Value.pointer (some ⟨b73, 0, none⟩))), (11, (Value.slice (some ⟨b79, 0, none⟩) 0 0)), (12, (Value.int .i64 (left.toNat : Int))), (13, (Value.int .i64 0))])) [(11, (Value.slice (some ⟨b371, 0, none⟩) waiting_1.length c_g86)), (12, (Value.int .i64 room_1)), (13, (Value.int .i64 i_1))])) [(11, (Value.slice (some ⟨b371, 0, none⟩) waiting_1.length c_g86)), (12, (Value.int .i64 room_1)), (17, (Value.pointer (some ⟨b328, 0, none⟩))), (18, (Value.int .i64 sync_1.2)), (19, (Value.bool (decide (room_1 < (waiting_1.length : Int))))), (20, (Value.int .i64 0))]) [(20, (Value.int .i64 k_1))] (by repeat (first | with_reducible exact Out.refl _ _ | refine Out.upd ?_ rfl | refine Out.updL ?_ rfl | refine Out.mix' ?_ rfl | exact Out.refl _ _)) rfl ⟨rfl, trivial⟩ fun ξ426 => ?_
                        refine Wp_region ?_  -- 29 law.go:130
                        refine Rg_op rfl (op_move (v := (Value.int .i64 k_1)) rfl ?_)
                        refine Rg_op rfl (op_move (v := (Value.int .i64 room_1)) rfl ?_)
                        refine Rg_op rfl (op_lss rfl rfl ?_)
                        refine Rg_nil ?_
                        refine Wp_cond rfl (fun hc427 => ?_) (fun hc427 => ?_)
                        ·
                          replace hm := bif_t hm hc427
                          refine Wp_drawR (g0 := []) (m := 11) (fl := []) (TS_inv hs423) (.inl rfl) rfl (by decide +kernel) ?_  -- 30
                          refine Dw_eq (Value.slice (some ⟨b371, 0, none⟩) waiting_1.length c_g86) (fun ρ428 w429 g hle hi ht => ?_) ?_
                          ·
                            obtain ⟨-, hst, -⟩ := hle
                            refine StepOp_plain (op_move (v := (Value.slice (some ⟨b371, 0, none⟩) waiting_1.length c_g86)) (ht 11 rfl) ?_)
                            exact Goes.same hi rfl
                          refine Dw_eq (Value.int .i64 k_1) (fun ρ431 w432 g hle hi ht => ?_) ?_
                          ·
                            obtain ⟨-, hst, -⟩ := hle
                            refine StepOp_plain (op_move (v := (Value.int .i64 k_1)) (ht 20 rfl) ?_)
                            exact Goes.same hi rfl
                          replace hm := ck_some hm; obtain ⟨hc437, hm⟩ := hm
                          refine Dw_eq (Value.pointer (some ⟨b371, k_1.toNat * 3, none⟩)) (fun ρ434 w435 g hle hi ht => ?_) ?_
                          ·
                            obtain ⟨-, hst, -⟩ := hle
                            replace f_g86 := f_g86.step hst
                            refine StepOp_plain (op_indexAddrG ty35 ty39 (ht 119 rfl) (ht 120 rfl) f_g86 hc437 ?_)
                            rintro _ ⟨⟩ -
                            exact Goes.same hi rfl
                          refine Dw_eq (Value.pointer (some ⟨b371, k_1.toNat * 3 + 1, none⟩)) (fun ρ439 w440 g hle hi ht => ?_) ?_
                          ·
                            obtain ⟨-, hst, -⟩ := hle
                            refine StepOp_plain (op_fieldAddr ty39 rfl ty5 (by decide) (ht 121 rfl) (rfl : _ = (⟨_, k_1.toNat * 3 + 1, none⟩ : Addr)) ?_)
                            exact Goes.same hi rfl
                          refine Dw_eq (Value.int .u8 (((waiting_1.getD k_1.toNat default).at_).toNat : Int)) (fun ρ442 w443 g hle hi ht => ?_) ?_
                          ·
                            obtain ⟨-, hst, -⟩ := hle
                            replace f_g86 := f_g86.step hst
                            have hsn := (Step.nx hi).1
                            refine StepOp_plain (op_loadGF (m := k_1) (nn := 3) (off := 1) (i := 2) ty5 rfl hsn rfl (ht 122 rfl) f_g86 hc437 (by decide) ?_)
                            intro vs445 v446 h447 hv448
                            obtain ⟨_, _, rfl, rfl, ⟨_, _, rfl, rfl, rfl⟩⟩ := h447
                            obtain rfl := Option.some.inj hv448
                            exact Goes.same hi rfl
                          refine Dw_eq (Value.int .u8 ((UInt8.ofNat ((((waiting_1.getD k_1.toNat default).at_).toNat : Int).tmod 4).toNat).toNat : Int)) (fun ρ450 w451 g hle hi ht => ?_) ?_
                          ·
                            obtain ⟨-, hst, -⟩ := hle
                            refine StepOp_plain (run1_u8 (e := ((((waiting_1.getD k_1.toNat default).at_).toNat : Int).tmod 4)) (inK_tmod (inK_u8 ((waiting_1.getD k_1.toNat default).at_))) (fun _ hk => op_rem (ht 123 rfl) rfl (by decide) hk) ?_)
                            exact Goes.same hi rfl
                          refine Dw_eq (Value.slice (some ⟨b371, 0, none⟩) waiting_1.length c_g86) (fun ρ453 w454 g hle hi ht => ?_) ?_
                          ·
                            obtain ⟨-, hst, -⟩ := hle
                            refine StepOp_plain (op_move (v := (Value.slice (some ⟨b371, 0, none⟩) waiting_1.length c_g86)) (ht 11 rfl) ?_)
                            exact Goes.same hi rfl
                          refine Dw_eq (Value.int .i64 k_1) (fun ρ456 w457 g hle hi ht => ?_) ?_
                          ·
                            obtain ⟨-, hst, -⟩ := hle
                            refine StepOp_plain (op_move (v := (Value.int .i64 k_1)) (ht 20 rfl) ?_)
                            exact Goes.same hi rfl
                          replace hm := ck_some hm; obtain ⟨hc462, hm⟩ := hm
                          refine Dw_eq (Value.pointer (some ⟨b371, k_1.toNat * 3, none⟩)) (fun ρ459 w460 g hle hi ht => ?_) ?_
                          ·
                            obtain ⟨-, hst, -⟩ := hle
                            replace f_g86 := f_g86.step hst
                            refine StepOp_plain (op_indexAddrG ty35 ty39 (ht 125 rfl) (ht 126 rfl) f_g86 hc462 ?_)
                            rintro _ ⟨⟩ -
                            exact Goes.same hi rfl
                          refine Dw_eq (Value.pointer (some ⟨b371, k_1.toNat * 3 + 2, none⟩)) (fun ρ464 w465 g hle hi ht => ?_) ?_
                          ·
                            obtain ⟨-, hst, -⟩ := hle
                            refine StepOp_plain (op_fieldAddr ty39 rfl ty5 (by decide) (ht 127 rfl) (rfl : _ = (⟨_, k_1.toNat * 3 + 2, none⟩ : Addr)) ?_)
                            exact Goes.same hi rfl
                          refine Dw_eq (Value.int .u8 (((waiting_1.getD k_1.toNat default).byte).toNat : Int)) (fun ρ467 w468 g hle hi ht => ?_) ?_
                          ·
                            obtain ⟨-, hst, -⟩ := hle
                            replace f_g86 := f_g86.step hst
                            have hsn := (Step.nx hi).1
                            refine StepOp_plain (op_loadGF (m := k_1) (nn := 3) (off := 2) (i := 2) ty5 rfl hsn rfl (ht 128 rfl) f_g86 hc462 (by decide) ?_)
                            intro vs470 v471 h472 hv473
                            obtain ⟨_, _, rfl, rfl, ⟨_, _, rfl, rfl, rfl⟩⟩ := h472
                            obtain rfl := Option.some.inj hv473
                            exact Goes.same hi rfl
                          refine Dw_nil fun w479 g480 hl481 hi482 => ?_
                          obtain ⟨-, hst483, -⟩ := hl481
                          obtain ⟨hs485, p484⟩ := Step.nx hi482
                          rintro _ rfl
                          rintro _ rfl
                          rintro _ rfl
                          rintro _ rfl
                          rintro _ rfl
                          rintro _ rfl
                          rintro _ rfl
                          rintro _ rfl
                          rintro _ rfl
                          rintro _ rfl
                          rintro _ rfl
                          have p486 : Step (ks [(some b328, Obj.cells [(Value.slice a_y326_sectors sync_1.1.sectors.length c_y326_sectors), (Value.slice a_y326_pending sync_1.1.pending.length c_y326_pending), (Value.int .i64 sync_1.1.left), (Value.bool sync_1.1.stopped)].toArray 25), (some b135, Obj.cells [(Value.bool ((script.getD i_1.toNat default).sync)), (Value.int .u8 (((script.getD i_1.toNat default).at_).toNat : Int)), (Value.int .u8 (((script.getD i_1.toNat default).byte).toNat : Int))].toArray 39), (some b371, o_g86), (some b73, o_g337), (some b67, o424), (some b61, o_g91), (some b24, Obj.cells [(Value.slice a_y92 v_2.length c_y92), (Value.slice a_y93 v_3.length c_y93), (Value.int .i64 v_4), (Value.bool v_5)].toArray 25)] O) w421 (ks [(some b328, Obj.cells [(Value.slice a_y326_sectors sync_1.1.sectors.length c_y326_sectors), (Value.slice a_y326_pending sync_1.1.pending.length c_y326_pending), (Value.int .i64 sync_1.1.left), (Value.bool sync_1.1.stopped)].toArray 25), (some b135, Obj.cells [(Value.bool ((script.getD i_1.toNat default).sync)), (Value.int .u8 (((script.getD i_1.toNat default).at_).toNat : Int)), (Value.int .u8 (((script.getD i_1.toNat default).byte).toNat : Int))].toArray 39), (some b371, o_g86), (some b73, o_g337), (some b67, o424), (some b61, o_g91), (some b24, Obj.cells [(Value.slice a_y92 v_2.length c_y92), (Value.slice a_y93 v_3.length c_y93), (Value.int .i64 v_4), (Value.bool v_5)].toArray 25)] O) w479 := hst483.trans p484
                          replace f_script := f_script.step p486
                          replace f_g86 := f_g86.step p486
                          replace f_g91 := f_g91.step p486
                          replace f_y92 := f_y92.step p486
                          replace f_y93 := f_y93.step p486
                          replace f_y326_sectors := f_y326_sectors.step p486
                          replace f_y326_pending := f_y326_pending.step p486
                          replace f_g337 := f_g337.step p486
                          replace f425 := f425.step p486
                          replace ch107 := ch107.trans p486
                          replace ch128 := ch128.trans p486
                          replace ch349 := ch349.trans p486
                          clear p486 hs423
                          replace hm := ck_some hm; obtain ⟨hc487, hm⟩ := hm
                          refine Rg_op rfl (op_indexAddrAG ty37 ty5 rfl rfl f_g337 hc487 ?_)
                          refine Rg_op_ (op_storeG (vs := [(Value.int .u8 (((waiting_1.getD k_1.toNat default).byte).toNat : Int))]) (i := 3) ty5 rfl hs485 rfl rfl rfl rfl f_g337 hc487 mkU8 ?_)
                          intro w488 o491 p489 hs490 f492
                          replace f_script := f_script.step p489
                          replace f_g86 := f_g86.step p489
                          replace f_g91 := f_g91.step p489
                          replace f_y92 := f_y92.step p489
                          replace f_y93 := f_y93.step p489
                          replace f_y326_sectors := f_y326_sectors.step p489
                          replace f_y326_pending := f_y326_pending.step p489
                          replace f425 := f425.step p489
                          replace ch107 := ch107.trans p489
                          replace ch128 := ch128.trans p489
                          replace ch349 := ch349.trans p489
                          clear p489 hs485
                          refine Rg_nil ?_
                          refine Wp_region ?_  -- 27 law.go:128
                          refine Rg_op rfl (op_move (v := (Value.int .i64 k_1)) rfl ?_)
                          refine Rg_op rfl (op_addw rfl rfl ?_)
                          refine Rg_op rfl (op_assign (v := (Value.int .i64 (IntKind.wrap .i64 (k_1 + 1)))) rfl ?_)
                          refine Rg_nil ?_
                          exact hK342 _ _ ⟨(IntKind.wrap .i64 (k_1 + 1)), (arr_7.set ((UInt8.ofNat ((((waiting_1.getD k_1.toNat default).at_).toNat : Int).tmod 4).toNat).toNat : Int).toNat ((waiting_1.getD k_1.toNat default).byte)), (arr_8.set ((UInt8.ofNat ((((waiting_1.getD k_1.toNat default).at_).toNat : Int).tmod 4).toNat).toNat : Int).toNat ((waiting_1.getD k_1.toNat default).byte)), o491, o424, _, rfl, ⟨(by repeat (first | with_reducible exact Out.refl _ _ | refine Out.upd ?_ rfl | refine Out.updL ?_ rfl | refine Out.mix' ?_ rfl | exact Out.refl _ _)), rfl, rfl, trivial⟩, ch349, hs490, (inK_wrap .i64 _), f492, f425, jnE3 hsf341 hm⟩
                        ·
                          replace hm := bif_f hm hc427
                          refine Wp_skip ?_
                          refine Wp_region ?_  -- 27 law.go:128
                          refine Rg_op rfl (op_move (v := (Value.int .i64 k_1)) rfl ?_)
                          refine Rg_op rfl (op_addw rfl rfl ?_)
                          refine Rg_op rfl (op_assign (v := (Value.int .i64 (IntKind.wrap .i64 (k_1 + 1)))) rfl ?_)
                          refine Rg_nil ?_
                          exact hK342 _ _ ⟨(IntKind.wrap .i64 (k_1 + 1)), arr_7, (arr_8.set ((UInt8.ofNat ((((waiting_1.getD k_1.toNat default).at_).toNat : Int).tmod 4).toNat).toNat : Int).toNat ((waiting_1.getD k_1.toNat default).byte)), o_g337, o424, _, rfl, ⟨(by repeat (first | with_reducible exact Out.refl _ _ | refine Out.upd ?_ rfl | refine Out.updL ?_ rfl | refine Out.mix' ?_ rfl | exact Out.refl _ _)), rfl, rfl, trivial⟩, ch349, hs423, (inK_wrap .i64 _), f_g337, f425, jnE3 hsf341 hm⟩
                      ·
                        replace hm := bif_f hm hc360
                        refine Wp_exit ?_
                        refine Wp_seq ?_
                        refine Wp_seq ?_
                        clear f_g89 f_g90
                        refine Wp_region ?_  -- 31 law.go:134
                        refine Rg_op rfl (op_move (v := (Value.bool (decide (room_1 < (waiting_1.length : Int))))) rfl ?_)
                        refine Rg_nil ?_
                        refine Wp_cond rfl (fun hc493 => ?_) (fun hc493 => ?_)
                        ·
                          replace hm := bif_t hm hc493
                          refine Wp_seq ?_
                          clear f_script f_g86
                          refine Wp_drawR (g0 := []) (m := 11) (fl := []) (TS_inv hs356) (.inl rfl) rfl (by decide +kernel) ?_  -- 32
                          refine Dw_eq (Value.int .i64 sync_1.2) (fun ρ494 w495 g hle hi ht => ?_) ?_
                          ·
                            obtain ⟨-, hst, -⟩ := hle
                            refine StepOp_plain (op_move (v := (Value.int .i64 sync_1.2)) (ht 18 rfl) ?_)
                            exact Goes.same hi rfl
                          refine Dw_eq (Value.bool (decide (sync_1.2 = 440))) (fun ρ497 w498 g hle hi ht => ?_) ?_
                          ·
                            obtain ⟨-, hst, -⟩ := hle
                            refine StepOp_plain (op_eql (ht 132 rfl) rfl ?_)
                            exact Goes.same hi rfl
                          refine Dw_opB (decide (sync_1.2 = 440)) (fun ρ500 w501 g hle hi ht => ?_) (fun hg503 => ?_) (fun hg503 => ?_)
                          ·
                            obtain ⟨-, hst, -⟩ := hle
                            refine StepOp_plain (op_move (v := (Value.bool (decide (sync_1.2 = 440)))) (ht 133 rfl) ?_)
                            exact Goes.same hi rfl
                          ·
                            replace hm := bif_t hm hg503
                            refine Dw_eq (Value.pointer (some ⟨b328, 3, none⟩)) (fun ρ504 w505 g hle hi ht => ?_) ?_
                            ·
                              obtain ⟨-, hst, -⟩ := hle
                              refine StepOp_g rfl (ht 134 rfl) (op_fieldAddr ty25 rfl ty4 (by decide) (ht 17 rfl) (rfl : _ = (⟨_, 3, none⟩ : Addr)) ?_)
                              exact Goes.same hi rfl
                            refine Dw_eq (Value.bool sync_1.1.stopped) (fun ρ507 w508 g hle hi ht => ?_) ?_
                            ·
                              obtain ⟨-, hst, -⟩ := hle
                              have hsn := (Step.nx hi).1
                              refine StepOp_g rfl (ht 134 rfl) (op_load (cs := [(Value.slice a_y326_sectors sync_1.1.sectors.length c_y326_sectors), (Value.slice a_y326_pending sync_1.1.pending.length c_y326_pending), (Value.int .i64 sync_1.1.left), (Value.bool sync_1.1.stopped)]) (i := 0) ty4 hsn (ht 135 rfl) rfl rfl ?_)
                              exact Goes.same hi rfl
                            refine Dw_eq (Value.bool sync_1.1.stopped) (fun ρ510 w511 g hle hi ht => ?_) ?_
                            ·
                              obtain ⟨-, hst, -⟩ := hle
                              refine StepOp_plain (op_pick_t (v := (Value.bool sync_1.1.stopped)) (ht 134 rfl) (ht 136 rfl) ?_)
                              exact Goes.same hi rfl
                            refine Dw_opB sync_1.1.stopped (fun ρ513 w514 g hle hi ht => ?_) (fun hg516 => ?_) (fun hg516 => ?_)
                            ·
                              obtain ⟨-, hst, -⟩ := hle
                              refine StepOp_plain (op_move (v := (Value.bool sync_1.1.stopped)) (ht 137 rfl) ?_)
                              exact Goes.same hi rfl
                            ·
                              replace hm := bif_t hm hg516
                              refine Dw_eq (Value.agg [(Value.slice a_y326_sectors sync_1.1.sectors.length c_y326_sectors), (Value.slice a_y326_pending sync_1.1.pending.length c_y326_pending), (Value.int .i64 sync_1.1.left), (Value.bool sync_1.1.stopped)].toArray) (fun ρ517 w518 g hle hi ht => ?_) ?_
                              ·
                                obtain ⟨-, hst, -⟩ := hle
                                have hsn := (Step.nx hi).1
                                refine StepOp_g rfl (ht 138 rfl) (op_loadA (cs := [(Value.slice a_y326_sectors sync_1.1.sectors.length c_y326_sectors), (Value.slice a_y326_pending sync_1.1.pending.length c_y326_pending), (Value.int .i64 sync_1.1.left), (Value.bool sync_1.1.stopped)]) (vs := [(Value.slice a_y326_sectors sync_1.1.sectors.length c_y326_sectors), (Value.slice a_y326_pending sync_1.1.pending.length c_y326_pending), (Value.int .i64 sync_1.1.left), (Value.bool sync_1.1.stopped)]) (i := 0) ty25 hsn (ht 17 rfl) rfl rfl rfl ?_)
                                exact Goes.same hi rfl
                              replace hm := bd hm; obtain ⟨restart_1, hv523, hm⟩ := hm
                              refine Dw_op (VD O [(some b328, Obj.cells [(Value.slice a_y326_sectors sync_1.1.sectors.length c_y326_sectors), (Value.slice a_y326_pending sync_1.1.pending.length c_y326_pending), (Value.int .i64 sync_1.1.left), (Value.bool sync_1.1.stopped)].toArray 25), (some b135, Obj.cells [(Value.bool ((script.getD i_1.toNat default).sync)), (Value.int .u8 (((script.getD i_1.toNat default).at_).toNat : Int)), (Value.int .u8 (((script.getD i_1.toNat default).byte).toNat : Int))].toArray 39), (k_g86, o_g86), (some b73, o_g337), (some b67, o_g338), (some b61, o_g91), (some b24, Obj.cells [(Value.slice a_y92 v_2.length c_y92), (Value.slice a_y93 v_3.length c_y93), (Value.int .i64 v_4), (Value.bool v_5)].toArray 25)] (vA rXDisk) restart_1) (VD.stab _ _) (fun ρ520 w521 g hle hi ht => ?_) ?_
                              ·
                                obtain ⟨-, hst, -⟩ := hle
                                replace f_y326_sectors := f_y326_sectors.step hst
                                replace f_y326_pending := f_y326_pending.step hst
                                refine StepOp_g rfl (ht 138 rfl) (op_call Try.call20 (c20_disk_Restart (O := ks (ents g ++ [(some b328, Obj.cells [(Value.slice a_y326_sectors sync_1.1.sectors.length c_y326_sectors), (Value.slice a_y326_pending sync_1.1.pending.length c_y326_pending), (Value.int .i64 sync_1.1.left), (Value.bool sync_1.1.stopped)].toArray 25), (some b135, Obj.cells [(Value.bool ((script.getD i_1.toNat default).sync)), (Value.int .u8 (((script.getD i_1.toNat default).at_).toNat : Int)), (Value.int .u8 (((script.getD i_1.toNat default).byte).toNat : Int))].toArray 39), (k_g86, o_g86), (some b73, o_g337), (some b67, o_g338), (some b61, o_g91), (some b24, Obj.cells [(Value.slice a_y92 v_2.length c_y92), (Value.slice a_y93 v_3.length c_y93), (Value.int .i64 v_4), (Value.bool v_5)].toArray 25)]) O) (d := sync_1.1) hi.ltw f_y326_sectors f_y326_pending r_y326_left hv523) (by simp only [List.map, Array.toList, (show ev _ (.tmp 139) = _ from (ht 139 rfl))] <;> rfl) ?_)
                                rintro v524 w525 ⟨hx526, h527⟩
                                exact Goes.call hi hx526 h527
                              replace hm := ck_some hm; obtain ⟨hc532, hm⟩ := hm
                              refine Dw_op (VD O [(some b328, Obj.cells [(Value.slice a_y326_sectors sync_1.1.sectors.length c_y326_sectors), (Value.slice a_y326_pending sync_1.1.pending.length c_y326_pending), (Value.int .i64 sync_1.1.left), (Value.bool sync_1.1.stopped)].toArray 25), (some b135, Obj.cells [(Value.bool ((script.getD i_1.toNat default).sync)), (Value.int .u8 (((script.getD i_1.toNat default).at_).toNat : Int)), (Value.int .u8 (((script.getD i_1.toNat default).byte).toNat : Int))].toArray 39), (k_g86, o_g86), (some b73, o_g337), (some b67, o_g338), (some b61, o_g91), (some b24, Obj.cells [(Value.slice a_y92 v_2.length c_y92), (Value.slice a_y93 v_3.length c_y93), (Value.int .i64 v_4), (Value.bool v_5)].toArray 25)] (vArr rU8) arr_8) (VD.stab _ _) (fun ρ529 w530 g hle hi ht => ?_) ?_
                              ·
                                obtain ⟨-, hst, -⟩ := hle
                                replace f_g338 := f_g338.step hst
                                have hsn := (Step.nx hi).1
                                refine StepOp_g rfl (ht 138 rfl) (op_loadArr (i := 4) ty37 rfl hsn rfl (ht 9 rfl) f_g338 hc532 ?_)
                                intro s533 f534
                                exact Goes.same hi (show Vr.vd (vArr rU8) _ _ _ _ from ⟨_, rfl, f534⟩)
                              replace hm := ck_some hm; obtain ⟨hc538, hm⟩ := hm
                              refine Dw_op (VD O [(some b328, Obj.cells [(Value.slice a_y326_sectors sync_1.1.sectors.length c_y326_sectors), (Value.slice a_y326_pending sync_1.1.pending.length c_y326_pending), (Value.int .i64 sync_1.1.left), (Value.bool sync_1.1.stopped)].toArray 25), (some b135, Obj.cells [(Value.bool ((script.getD i_1.toNat default).sync)), (Value.int .u8 (((script.getD i_1.toNat default).at_).toNat : Int)), (Value.int .u8 (((script.getD i_1.toNat default).byte).toNat : Int))].toArray 39), (k_g86, o_g86), (some b73, o_g337), (some b67, o_g338), (some b61, o_g91), (some b24, Obj.cells [(Value.slice a_y92 v_2.length c_y92), (Value.slice a_y93 v_3.length c_y93), (Value.int .i64 v_4), (Value.bool v_5)].toArray 25)] (vArr rU8) arr_7) (VD.stab _ _) (fun ρ535 w536 g hle hi ht => ?_) ?_
                              ·
                                obtain ⟨-, hst, -⟩ := hle
                                replace f_g337 := f_g337.step hst
                                have hsn := (Step.nx hi).1
                                refine StepOp_g rfl (ht 138 rfl) (op_loadArr (i := 3) ty37 rfl hsn rfl (ht 10 rfl) f_g337 hc538 ?_)
                                intro s539 f540
                                exact Goes.same hi (show Vr.vd (vArr rU8) _ _ _ _ from ⟨_, rfl, f540⟩)
                              refine Dw_nil fun w545 g546 hl547 hi548 => ?_
                              obtain ⟨-, hst549, -⟩ := hl547
                              obtain ⟨hs551, p550⟩ := Step.nx hi548
                              rintro v552 h553
                              replace h553 : Vr.vd (vArr rU8) _ _ _ _ := h553
                              obtain ⟨s_y554, rfl, f_y554⟩ := h553
                              rintro v555 h556
                              replace h556 : Vr.vd (vArr rU8) _ _ _ _ := h556
                              obtain ⟨s_y557, rfl, f_y557⟩ := h556
                              rintro v558 h559
                              replace h559 : Vr.vd (vA rXDisk) _ _ _ _ := h559
                              obtain ⟨_, rfl, ⟨_, _, rfl, ⟨a_y560_sectors, c_y560_sectors, rfl, f_y560_sectors⟩, ⟨_, _, rfl, ⟨a_y560_pending, c_y560_pending, rfl, f_y560_pending⟩, ⟨_, _, rfl, ⟨rfl, r_y560_left⟩, rfl⟩⟩⟩⟩ := h559
                              rintro _ rfl
                              rintro _ rfl
                              rintro _ rfl
                              rintro _ rfl
                              rintro _ rfl
                              rintro _ rfl
                              rintro _ rfl
                              rintro _ rfl
                              have p561 : Step (ks [(some b328, Obj.cells [(Value.slice a_y326_sectors sync_1.1.sectors.length c_y326_sectors), (Value.slice a_y326_pending sync_1.1.pending.length c_y326_pending), (Value.int .i64 sync_1.1.left), (Value.bool sync_1.1.stopped)].toArray 25), (some b135, Obj.cells [(Value.bool ((script.getD i_1.toNat default).sync)), (Value.int .u8 (((script.getD i_1.toNat default).at_).toNat : Int)), (Value.int .u8 (((script.getD i_1.toNat default).byte).toNat : Int))].toArray 39), (k_g86, o_g86), (some b73, o_g337), (some b67, o_g338), (some b61, o_g91), (some b24, Obj.cells [(Value.slice a_y92 v_2.length c_y92), (Value.slice a_y93 v_3.length c_y93), (Value.int .i64 v_4), (Value.bool v_5)].toArray 25)] O) w355 (ks [(some b328, Obj.cells [(Value.slice a_y326_sectors sync_1.1.sectors.length c_y326_sectors), (Value.slice a_y326_pending sync_1.1.pending.length c_y326_pending), (Value.int .i64 sync_1.1.left), (Value.bool sync_1.1.stopped)].toArray 25), (some b135, Obj.cells [(Value.bool ((script.getD i_1.toNat default).sync)), (Value.int .u8 (((script.getD i_1.toNat default).at_).toNat : Int)), (Value.int .u8 (((script.getD i_1.toNat default).byte).toNat : Int))].toArray 39), (k_g86, o_g86), (some b73, o_g337), (some b67, o_g338), (some b61, o_g91), (some b24, Obj.cells [(Value.slice a_y92 v_2.length c_y92), (Value.slice a_y93 v_3.length c_y93), (Value.int .i64 v_4), (Value.bool v_5)].toArray 25)] O) w545 := hst549.trans p550
                              replace f_y554 := f_y554.step p550
                              replace f_y557 := f_y557.step p550
                              replace f_y560_sectors := f_y560_sectors.step p550
                              replace f_y560_pending := f_y560_pending.step p550
                              replace f_g91 := f_g91.step p561
                              replace f_y92 := f_y92.step p561
                              replace f_y93 := f_y93.step p561
                              replace f_y326_sectors := f_y326_sectors.step p561
                              replace f_y326_pending := f_y326_pending.step p561
                              replace f_g337 := f_g337.step p561
                              replace f_g338 := f_g338.step p561
                              replace ch107 := ch107.trans p561
                              replace ch128 := ch128.trans p561
                              replace ch349 := ch349.trans p561
                              clear p561 hs356
                              replace hm := bd hm; obtain ⟨holds_2, hv562, hm⟩ := hm
                              refine Rg_opg rfl rfl rfl (op_call Try.call26 (c26_overflightlaw44_holds (d := restart_1) (first := arr_8) (second := arr_7) hs551.ltw f_y560_sectors f_y560_pending r_y560_left f_y557 f_y554 hv562) rfl ?_)
                              rintro v563 w564 ⟨hx565, h566⟩
                              have hs567 := hs551.call hx565
                              have p568 := Step.ext (O := ks [(some b328, Obj.cells [(Value.slice a_y326_sectors sync_1.1.sectors.length c_y326_sectors), (Value.slice a_y326_pending sync_1.1.pending.length c_y326_pending), (Value.int .i64 sync_1.1.left), (Value.bool sync_1.1.stopped)].toArray 25), (some b135, Obj.cells [(Value.bool ((script.getD i_1.toNat default).sync)), (Value.int .u8 (((script.getD i_1.toNat default).at_).toNat : Int)), (Value.int .u8 (((script.getD i_1.toNat default).byte).toNat : Int))].toArray 39), (k_g86, o_g86), (some b73, o_g337), (some b67, o_g338), (some b61, o_g91), (some b24, Obj.cells [(Value.slice a_y92 v_2.length c_y92), (Value.slice a_y93 v_3.length c_y93), (Value.int .i64 v_4), (Value.bool v_5)].toArray 25)] O) hx565
                              clear hx565
                              replace f_g91 := f_g91.step p568
                              replace f_y92 := f_y92.step p568
                              replace f_y93 := f_y93.step p568
                              replace f_y326_sectors := f_y326_sectors.step p568
                              replace f_y326_pending := f_y326_pending.step p568
                              replace f_g337 := f_g337.step p568
                              replace f_g338 := f_g338.step p568
                              replace f_y554 := f_y554.step p568
                              replace f_y557 := f_y557.step p568
                              replace f_y560_sectors := f_y560_sectors.step p568
                              replace f_y560_pending := f_y560_pending.step p568
                              replace ch107 := ch107.trans p568
                              replace ch128 := ch128.trans p568
                              replace ch349 := ch349.trans p568
                              clear p568 hs551
                              obtain rfl := h566
                              refine Rg_op rfl (op_pick_t (v := (Value.bool holds_2)) rfl rfl ?_)
                              refine Rg_op rfl (op_assign (v := (Value.bool holds_2)) rfl ?_)
                              refine Rg_nil ?_
                              refine Wp_ret ?_
                              have hz := step_all hs567
                              replace f_g91 := f_g91.step hz
                              replace f_y92 := f_y92.step hz
                              replace f_y93 := f_y93.step hz
                              replace f_y326_sectors := f_y326_sectors.step hz
                              replace f_y326_pending := f_y326_pending.step hz
                              replace f_g337 := f_g337.step hz
                              replace f_g338 := f_g338.step hz
                              replace f_y554 := f_y554.step hz
                              replace f_y557 := f_y557.step hz
                              replace f_y560_sectors := f_y560_sectors.step hz
                              replace f_y560_pending := f_y560_pending.step hz
                              refine ⟨_, (show Closes [] _ _ from rfl), [(Value.bool holds_2)], ⟨rfl, trivial⟩, hs567.ext, ?_⟩
                              exact Vr.eq (a := vB) (x := holds_2) rfl (Option.some.inj hm)
                            ·
                              replace hm := bif_f hm hg516
                              refine Dw_skip (fun _ _ _ ht => wanted_x rfl (ht 138 rfl) rfl) ?_
                              refine Dw_skip (fun _ _ _ ht => wanted_x rfl (ht 138 rfl) rfl) ?_
                              refine Dw_skip (fun _ _ _ ht => wanted_x rfl (ht 138 rfl) rfl) ?_
                              refine Dw_skip (fun _ _ _ ht => wanted_x rfl (ht 138 rfl) rfl) ?_
                              refine Dw_nil fun w574 g575 hl576 hi577 => ?_
                              obtain ⟨-, hst578, -⟩ := hl576
                              obtain ⟨hs580, p579⟩ := Step.nx hi577
                              rintro _ rfl
                              rintro _ rfl
                              rintro _ rfl
                              rintro _ rfl
                              rintro _ rfl
                              rintro _ rfl
                              rintro _ rfl
                              rintro _ rfl
                              rintro _ rfl
                              rintro _ rfl
                              rintro _ rfl
                              have p581 : Step (ks [(some b328, Obj.cells [(Value.slice a_y326_sectors sync_1.1.sectors.length c_y326_sectors), (Value.slice a_y326_pending sync_1.1.pending.length c_y326_pending), (Value.int .i64 sync_1.1.left), (Value.bool sync_1.1.stopped)].toArray 25), (some b135, Obj.cells [(Value.bool ((script.getD i_1.toNat default).sync)), (Value.int .u8 (((script.getD i_1.toNat default).at_).toNat : Int)), (Value.int .u8 (((script.getD i_1.toNat default).byte).toNat : Int))].toArray 39), (k_g86, o_g86), (some b73, o_g337), (some b67, o_g338), (some b61, o_g91), (some b24, Obj.cells [(Value.slice a_y92 v_2.length c_y92), (Value.slice a_y93 v_3.length c_y93), (Value.int .i64 v_4), (Value.bool v_5)].toArray 25)] O) w355 (ks [(some b328, Obj.cells [(Value.slice a_y326_sectors sync_1.1.sectors.length c_y326_sectors), (Value.slice a_y326_pending sync_1.1.pending.length c_y326_pending), (Value.int .i64 sync_1.1.left), (Value.bool sync_1.1.stopped)].toArray 25), (some b135, Obj.cells [(Value.bool ((script.getD i_1.toNat default).sync)), (Value.int .u8 (((script.getD i_1.toNat default).at_).toNat : Int)), (Value.int .u8 (((script.getD i_1.toNat default).byte).toNat : Int))].toArray 39), (k_g86, o_g86), (some b73, o_g337), (some b67, o_g338), (some b61, o_g91), (some b24, Obj.cells [(Value.slice a_y92 v_2.length c_y92), (Value.slice a_y93 v_3.length c_y93), (Value.int .i64 v_4), (Value.bool v_5)].toArray 25)] O) w574 := hst578.trans p579
                              replace f_g91 := f_g91.step p581
                              replace f_y92 := f_y92.step p581
                              replace f_y93 := f_y93.step p581
                              replace f_y326_sectors := f_y326_sectors.step p581
                              replace f_y326_pending := f_y326_pending.step p581
                              replace f_g337 := f_g337.step p581
                              replace f_g338 := f_g338.step p581
                              replace ch107 := ch107.trans p581
                              replace ch128 := ch128.trans p581
                              replace ch349 := ch349.trans p581
                              clear p581 hs356
                              refine Rg_opx rfl (asB_ne rfl rfl) rfl ?_
                              refine Rg_op rfl (op_pick_f (v := (Value.bool false)) rfl rfl ?_)
                              refine Rg_op rfl (op_assign (v := (Value.bool false)) rfl ?_)
                              refine Rg_nil ?_
                              refine Wp_ret ?_
                              have hz := step_all hs580
                              replace f_g91 := f_g91.step hz
                              replace f_y92 := f_y92.step hz
                              replace f_y93 := f_y93.step hz
                              replace f_y326_sectors := f_y326_sectors.step hz
                              replace f_y326_pending := f_y326_pending.step hz
                              replace f_g337 := f_g337.step hz
                              replace f_g338 := f_g338.step hz
                              refine ⟨_, (show Closes [] _ _ from rfl), [(Value.bool false)], ⟨rfl, trivial⟩, hs580.ext, ?_⟩
                              exact Vr.eq (a := vB) (x := false) rfl (Option.some.inj hm)
                          ·
                            replace hm := bif_f hm hg503
                            refine Dw_skip (fun _ _ _ ht => wanted_x rfl (ht 134 rfl) rfl) ?_
                            refine Dw_skip (fun _ _ _ ht => wanted_x rfl (ht 134 rfl) rfl) ?_
                            refine Dw_eq (Value.bool false) (fun ρ582 w583 g hle hi ht => ?_) ?_
                            ·
                              obtain ⟨-, hst, -⟩ := hle
                              refine StepOp_plain (op_pick_f (v := (Value.bool false)) (ht 134 rfl) rfl ?_)
                              exact Goes.same hi rfl
                            refine Dw_eq (Value.bool false) (fun ρ585 w586 g hle hi ht => ?_) ?_
                            ·
                              obtain ⟨-, hst, -⟩ := hle
                              refine StepOp_plain (op_move (v := (Value.bool false)) (ht 137 rfl) ?_)
                              exact Goes.same hi rfl
                            refine Dw_skip (fun _ _ _ ht => wanted_x rfl (ht 138 rfl) rfl) ?_
                            refine Dw_skip (fun _ _ _ ht => wanted_x rfl (ht 138 rfl) rfl) ?_
                            refine Dw_skip (fun _ _ _ ht => wanted_x rfl (ht 138 rfl) rfl) ?_
                            refine Dw_skip (fun _ _ _ ht => wanted_x rfl (ht 138 rfl) rfl) ?_
                            refine Dw_nil fun w592 g593 hl594 hi595 => ?_
                            obtain ⟨-, hst596, -⟩ := hl594
                            obtain ⟨hs598, p597⟩ := Step.nx hi595
                            rintro _ rfl
                            rintro _ rfl
                            rintro _ rfl
                            rintro _ rfl
                            rintro _ rfl
                            rintro _ rfl
                            rintro _ rfl
                            rintro _ rfl
                            rintro _ rfl
                            rintro _ rfl
                            rintro _ rfl
                            have p599 : Step (ks [(some b328, Obj.cells [(Value.slice a_y326_sectors sync_1.1.sectors.length c_y326_sectors), (Value.slice a_y326_pending sync_1.1.pending.length c_y326_pending), (Value.int .i64 sync_1.1.left), (Value.bool sync_1.1.stopped)].toArray 25), (some b135, Obj.cells [(Value.bool ((script.getD i_1.toNat default).sync)), (Value.int .u8 (((script.getD i_1.toNat default).at_).toNat : Int)), (Value.int .u8 (((script.getD i_1.toNat default).byte).toNat : Int))].toArray 39), (k_g86, o_g86), (some b73, o_g337), (some b67, o_g338), (some b61, o_g91), (some b24, Obj.cells [(Value.slice a_y92 v_2.length c_y92), (Value.slice a_y93 v_3.length c_y93), (Value.int .i64 v_4), (Value.bool v_5)].toArray 25)] O) w355 (ks [(some b328, Obj.cells [(Value.slice a_y326_sectors sync_1.1.sectors.length c_y326_sectors), (Value.slice a_y326_pending sync_1.1.pending.length c_y326_pending), (Value.int .i64 sync_1.1.left), (Value.bool sync_1.1.stopped)].toArray 25), (some b135, Obj.cells [(Value.bool ((script.getD i_1.toNat default).sync)), (Value.int .u8 (((script.getD i_1.toNat default).at_).toNat : Int)), (Value.int .u8 (((script.getD i_1.toNat default).byte).toNat : Int))].toArray 39), (k_g86, o_g86), (some b73, o_g337), (some b67, o_g338), (some b61, o_g91), (some b24, Obj.cells [(Value.slice a_y92 v_2.length c_y92), (Value.slice a_y93 v_3.length c_y93), (Value.int .i64 v_4), (Value.bool v_5)].toArray 25)] O) w592 := hst596.trans p597
                            replace f_g91 := f_g91.step p599
                            replace f_y92 := f_y92.step p599
                            replace f_y93 := f_y93.step p599
                            replace f_y326_sectors := f_y326_sectors.step p599
                            replace f_y326_pending := f_y326_pending.step p599
                            replace f_g337 := f_g337.step p599
                            replace f_g338 := f_g338.step p599
                            replace ch107 := ch107.trans p599
                            replace ch128 := ch128.trans p599
                            replace ch349 := ch349.trans p599
                            clear p599 hs356
                            refine Rg_opx rfl (asB_ne rfl rfl) rfl ?_
                            refine Rg_op rfl (op_pick_f (v := (Value.bool false)) rfl rfl ?_)
                            refine Rg_op rfl (op_assign (v := (Value.bool false)) rfl ?_)
                            refine Rg_nil ?_
                            refine Wp_ret ?_
                            have hz := step_all hs598
                            replace f_g91 := f_g91.step hz
                            replace f_y92 := f_y92.step hz
                            replace f_y93 := f_y93.step hz
                            replace f_y326_sectors := f_y326_sectors.step hz
                            replace f_y326_pending := f_y326_pending.step hz
                            replace f_g337 := f_g337.step hz
                            replace f_g338 := f_g338.step hz
                            refine ⟨_, (show Closes [] _ _ from rfl), [(Value.bool false)], ⟨rfl, trivial⟩, hs598.ext, ?_⟩
                            exact Vr.eq (a := vB) (x := false) rfl (Option.some.inj hm)
                        ·
                          replace hm := bif_f hm hc493
                          refine Wp_skip ?_
                          refine Wp_seq ?_
                          refine Wp_seq ?_
                          refine Wp_region ?_  -- 33 law.go:137
                          refine Rg_op rfl (op_move (v := (Value.int .i64 sync_1.2)) rfl ?_)
                          refine Rg_op rfl (op_neq rfl rfl ?_)
                          refine Rg_nil ?_
                          refine Wp_cond rfl (fun hc600 => ?_) (fun hc600 => ?_)
                          ·
                            replace hm := bif_t hm hc600
                            refine Wp_seq ?_
                            clear f_script f_g86
                            refine Wp_region ?_  -- 34 law.go:138
                            refine Rg_op rfl (op_assign (v := (Value.bool false)) rfl ?_)
                            refine Rg_nil ?_
                            refine Wp_ret ?_
                            have hz := step_all hs356
                            replace f_g91 := f_g91.step hz
                            replace f_y92 := f_y92.step hz
                            replace f_y93 := f_y93.step hz
                            replace f_y326_sectors := f_y326_sectors.step hz
                            replace f_y326_pending := f_y326_pending.step hz
                            replace f_g337 := f_g337.step hz
                            replace f_g338 := f_g338.step hz
                            refine ⟨_, (show Closes [] _ _ from rfl), [(Value.bool false)], ⟨rfl, trivial⟩, hs356.ext, ?_⟩
                            exact Vr.eq (a := vB) (x := false) rfl (Option.some.inj hm)
                          ·
                            replace hm := bif_f hm hc600
                            refine Wp_skip ?_
                            refine Wp_seq ?_
                            refine Wp_region ?_  -- 35 law.go:140
                            refine Rg_op rfl (op_move (v := (Value.int .i64 room_1)) rfl ?_)
                            refine Rg_op rfl (op_move (v := (Value.slice a_g86 waiting_1.length c_g86)) rfl ?_)
                            refine Rg_op rfl (op_len Try.underlying35 rfl ?_)
                            refine Rg_op rfl (op_subw rfl rfl ?_)
                            refine Rg_op rfl (op_assign (v := (Value.int .i64 (IntKind.wrap .i64 (room_1 - (waiting_1.length : Int))))) rfl ?_)
                            refine Rg_nil ?_
                            refine Wp_seq ?_
                            clear f_g86
                            refine Wp_region ?_  -- 36 law.go:141
                            refine Rg_op rfl (op_buildSlice (cs := []) (parts := []) ty35 ty39 hs356 (by decide) rfl ?_)
                            intro b601 w602 hx605 p603 hs604
                            replace f_script := f_script.step p603
                            replace f_g91 := f_g91.step p603
                            replace f_y92 := f_y92.step p603
                            replace f_y93 := f_y93.step p603
                            replace f_y326_sectors := f_y326_sectors.step p603
                            replace f_y326_pending := f_y326_pending.step p603
                            replace f_g337 := f_g337.step p603
                            replace f_g338 := f_g338.step p603
                            replace ch107 := ch107.trans p603
                            replace ch128 := ch128.trans p603
                            replace ch349 := ch349.trans p603
                            clear p603 hs356
                            refine Rg_op rfl (op_assign (v := (Value.slice (some ⟨b601, 0, none⟩) 0 0)) rfl ?_)
                            refine Rg_nil ?_
                            refine Wp_region ?_  -- 37 law.go:142
                            refine Rg_op rfl (op_loadA (cs := [(Value.slice a_y326_sectors sync_1.1.sectors.length c_y326_sectors), (Value.slice a_y326_pending sync_1.1.pending.length c_y326_pending), (Value.int .i64 sync_1.1.left), (Value.bool sync_1.1.stopped)]) (vs := [(Value.slice a_y326_sectors sync_1.1.sectors.length c_y326_sectors), (Value.slice a_y326_pending sync_1.1.pending.length c_y326_pending), (Value.int .i64 sync_1.1.left), (Value.bool sync_1.1.stopped)]) (i := 1) ty25 hs604 rfl rfl rfl rfl ?_)
                            refine Rg_op_ (op_store (cs := [(Value.slice a_y92 v_2.length c_y92), (Value.slice a_y93 v_3.length c_y93), (Value.int .i64 v_4), (Value.bool v_5)]) (vs := [(Value.slice a_y326_sectors sync_1.1.sectors.length c_y326_sectors), (Value.slice a_y326_pending sync_1.1.pending.length c_y326_pending), (Value.int .i64 sync_1.1.left), (Value.bool sync_1.1.stopped)]) (cs' := [(Value.slice a_y326_sectors sync_1.1.sectors.length c_y326_sectors), (Value.slice a_y326_pending sync_1.1.pending.length c_y326_pending), (Value.int .i64 sync_1.1.left), (Value.bool sync_1.1.stopped)]) (bs' := [(some b601, Obj.cells [].toArray 39), (some b328, Obj.cells [(Value.slice a_y326_sectors sync_1.1.sectors.length c_y326_sectors), (Value.slice a_y326_pending sync_1.1.pending.length c_y326_pending), (Value.int .i64 sync_1.1.left), (Value.bool sync_1.1.stopped)].toArray 25), (some b135, Obj.cells [(Value.bool ((script.getD i_1.toNat default).sync)), (Value.int .u8 (((script.getD i_1.toNat default).at_).toNat : Int)), (Value.int .u8 (((script.getD i_1.toNat default).byte).toNat : Int))].toArray 39), (k_g86, o_g86), (some b73, o_g337), (some b67, o_g338), (some b61, o_g91), (some b24, Obj.cells [(Value.slice a_y326_sectors sync_1.1.sectors.length c_y326_sectors), (Value.slice a_y326_pending sync_1.1.pending.length c_y326_pending), (Value.int .i64 sync_1.1.left), (Value.bool sync_1.1.stopped)].toArray 25)]) (i := 7) ty25 hs604 rfl rfl rfl rfl rfl (le_lit rfl) rfl rfl rfl ?_)
                            intro w607 p608 hs609
                            replace f_script := f_script.step p608
                            replace f_g91 := f_g91.step p608
                            replace f_y92 := f_y92.step p608
                            replace f_y93 := f_y93.step p608
                            replace f_y326_sectors := f_y326_sectors.step p608
                            replace f_y326_pending := f_y326_pending.step p608
                            replace f_g337 := f_g337.step p608
                            replace f_g338 := f_g338.step p608
                            replace ch107 := ch107.trans p608
                            replace ch128 := ch128.trans p608
                            replace ch349 := ch349.trans p608
                            clear p608 hs604
                            refine Rg_nil ?_
                            refine Wp_seq ?_
                            clear f_y92 f_y93
                            refine Wp_region ?_  -- 38 law.go:144
                            refine Rg_op rfl (op_loadA (cs := [(Value.slice a_y326_sectors sync_1.1.sectors.length c_y326_sectors), (Value.slice a_y326_pending sync_1.1.pending.length c_y326_pending), (Value.int .i64 sync_1.1.left), (Value.bool sync_1.1.stopped)]) (vs := [(Value.slice a_y326_sectors sync_1.1.sectors.length c_y326_sectors), (Value.slice a_y326_pending sync_1.1.pending.length c_y326_pending), (Value.int .i64 sync_1.1.left), (Value.bool sync_1.1.stopped)]) (i := 7) ty25 hs609 rfl rfl rfl rfl ?_)
                            replace hm := ck_some hm; obtain ⟨hc610, hm⟩ := hm
                            refine Rg_op rfl (op_loadArr (i := 6) ty37 rfl hs609 rfl rfl f_g91 hc610 ?_)
                            intro s611 f612
                            replace hm := ck_some hm; obtain ⟨hc613, hm⟩ := hm
                            refine Rg_op rfl (op_loadArr (i := 6) ty37 rfl hs609 rfl rfl f_g91 hc613 ?_)
                            intro s614 f615
                            replace hm := bd hm; obtain ⟨holds_3, hv616, hm⟩ := hm
                            refine Rg_op rfl (op_call Try.call26 (c26_overflightlaw44_holds (d := sync_1.1) (first := arr_3) (second := arr_3) hs609.ltw f_y326_sectors f_y326_pending r_y326_left f612 f615 hv616) rfl ?_)
                            rintro v617 w618 ⟨hx619, h620⟩
                            have hs621 := hs609.call hx619
                            have p622 := Step.ext (O := ks [(some b601, Obj.cells [].toArray 39), (some b328, Obj.cells [(Value.slice a_y326_sectors sync_1.1.sectors.length c_y326_sectors), (Value.slice a_y326_pending sync_1.1.pending.length c_y326_pending), (Value.int .i64 sync_1.1.left), (Value.bool sync_1.1.stopped)].toArray 25), (some b135, Obj.cells [(Value.bool ((script.getD i_1.toNat default).sync)), (Value.int .u8 (((script.getD i_1.toNat default).at_).toNat : Int)), (Value.int .u8 (((script.getD i_1.toNat default).byte).toNat : Int))].toArray 39), (k_g86, o_g86), (some b73, o_g337), (some b67, o_g338), (some b61, o_g91), (some b24, Obj.cells [(Value.slice a_y326_sectors sync_1.1.sectors.length c_y326_sectors), (Value.slice a_y326_pending sync_1.1.pending.length c_y326_pending), (Value.int .i64 sync_1.1.left), (Value.bool sync_1.1.stopped)].toArray 25)] O) hx619
                            clear hx619
                            replace f_script := f_script.step p622
                            replace f_g91 := f_g91.step p622
                            replace f_y326_sectors := f_y326_sectors.step p622
                            replace f_y326_pending := f_y326_pending.step p622
                            replace f_g337 := f_g337.step p622
                            replace f_g338 := f_g338.step p622
                            replace f612 := f612.step p622
                            replace f615 := f615.step p622
                            replace ch107 := ch107.trans p622
                            replace ch128 := ch128.trans p622
                            replace ch349 := ch349.trans p622
                            clear p622 hs609
                            obtain rfl := h620
                            refine Rg_op rfl (op_not rfl ?_)
                            refine Rg_nil ?_
                            refine Wp_cond rfl (fun hc624 => ?_) (fun hc624 => ?_)
                            ·
                              replace hm := bif_t hm hc624
                              refine Wp_seq ?_
                              clear f_script f612 f615
                              refine Wp_reset2 [4, 11, 12, 14, 15, 16, 17, 18, 19, 20, 52, 53, 54, 55, 56, 57, 58, 59, 60, 61, 62, 63, 64, 65, 66, 67, 68, 69, 70, 71, 72, 73, 74, 75, 76, 77, 78, 79, 80, 81, 82, 83, 84, 85, 86, 87, 88, 89, 90, 91, 92, 93, 94, 95, 96, 97, 98, 99, 100, 101, 102, 103, 104, 105, 106, 107, 108, 109, 110, 111, 112, 113, 114, 115, 116, 117, 118, 119, 120, 121, 122, 123, 124, 125, 126, 127, 128, 129, 130, 131, 132, 133, 134, 135, 136, 137, 138, 139, 140, 141, 142, 143, 144, 145, 146, 147, 148, 149, 150, 151, 152, 153, 154, 155, 156, 157] [] (updL (mix [4, 11, 12, 13, 14, 15, 16, 17, 18, 19, 20, 46, 47, 48, 49, 50, 51, 52, 53, 54, 55, 56, 57, 58, 59, 60, 61, 62, 63, 64, 65, 66, 67, 68, 69, 70, 71, 72, 73, 74, 75, 76, 77, 78, 79, 80, 81, 82, 83, 84, 85, 86, 87, 88, 89, 90, 91, 92, 93, 94, 95, 96, 97, 98, 99, 100, 101, 102, 103, 104, 105, 106, 107, 108, 109, 110, 111, 112, 113, 114, 115, 116, 117, 118, 119, 120, 121, 122, 123, 124, 125, 126, 127, 128, 129, 130, 131, 132, 133, 134, 135, 136, 137, 138, 139, 140, 141, 142, 143, 144, 145, 146, 147, 148, 149, 150, 151, 152, 153, 154, 155, 156, 157] [] ξ109 (updL ⟨ξ96, []⟩ [(0, (Value.slice a_script script.length c_script)), (5, (Value.pointer (some ⟨b24, 0, none⟩))), (8, (Value.pointer (some ⟨b61, 0, none⟩))), (9, (Value.pointer (some ⟨b67, 0, none⟩))), (10, (Value.pointer (some ⟨b73, 0, none⟩))), (11, (Value.slice (some ⟨b79, 0, none⟩) 0 0)), (12, (Value.int .i64 (left.toNat : Int))), (13, (Value.int .i64 0))])) [(11, (Value.slice a_g86 waiting_1.length c_g86)), (12, (Value.int .i64 room_1)), (13, (Value.int .i64 i_1))]) [] (by repeat (first | with_reducible exact Out.refl _ _ | refine Out.upd ?_ rfl | refine Out.updL ?_ rfl | refine Out.mix' ?_ rfl | exact Out.refl _ _)) rfl trivial fun ξ625 => ?_
                              refine Wp_region ?_  -- 39 law.go:145
                              refine Rg_op rfl (op_assign (v := (Value.bool false)) rfl ?_)
                              refine Rg_nil ?_
                              refine Wp_ret ?_
                              have hz := step_all hs621
                              replace f_g91 := f_g91.step hz
                              replace f_y326_sectors := f_y326_sectors.step hz
                              replace f_y326_pending := f_y326_pending.step hz
                              replace f_g337 := f_g337.step hz
                              replace f_g338 := f_g338.step hz
                              refine ⟨_, (show Closes [] _ _ from rfl), [(Value.bool false)], ⟨rfl, trivial⟩, hs621.ext, ?_⟩
                              exact Vr.eq (a := vB) (x := false) rfl (Option.some.inj hm)
                            ·
                              replace hm := bif_f hm hc624
                              refine Wp_skip ?_
                              have f626 := Gs.of_cells (p := rXAct) (e := 39) (bl := b601) (c := 0) (w := w618) (O := ks [(some b601, Obj.cells [].toArray 39), (some b328, Obj.cells [(Value.slice a_y326_sectors sync_1.1.sectors.length c_y326_sectors), (Value.slice a_y326_pending sync_1.1.pending.length c_y326_pending), (Value.int .i64 sync_1.1.left), (Value.bool sync_1.1.stopped)].toArray 25), (some b135, Obj.cells [(Value.bool ((script.getD i_1.toNat default).sync)), (Value.int .u8 (((script.getD i_1.toNat default).at_).toNat : Int)), (Value.int .u8 (((script.getD i_1.toNat default).byte).toNat : Int))].toArray 39), (k_g86, o_g86), (some b73, o_g337), (some b67, o_g338), (some b61, o_g91), (some b24, Obj.cells [(Value.slice a_y326_sectors sync_1.1.sectors.length c_y326_sectors), (Value.slice a_y326_pending sync_1.1.pending.length c_y326_pending), (Value.int .i64 sync_1.1.left), (Value.bool sync_1.1.stopped)].toArray 25)] O) (show Els rXAct _ _ [] [] from Els.nil) rfl (le_lit rfl)
                              have hs627 := hs621.drop 3
                              replace f_script := f_script.step (Step.drop _ _ [(some b601, Obj.cells [].toArray 39), (some b328, Obj.cells [(Value.slice a_y326_sectors sync_1.1.sectors.length c_y326_sectors), (Value.slice a_y326_pending sync_1.1.pending.length c_y326_pending), (Value.int .i64 sync_1.1.left), (Value.bool sync_1.1.stopped)].toArray 25), (some b135, Obj.cells [(Value.bool ((script.getD i_1.toNat default).sync)), (Value.int .u8 (((script.getD i_1.toNat default).at_).toNat : Int)), (Value.int .u8 (((script.getD i_1.toNat default).byte).toNat : Int))].toArray 39), (k_g86, o_g86), (some b73, o_g337), (some b67, o_g338), (some b61, o_g91), (some b24, Obj.cells [(Value.slice a_y326_sectors sync_1.1.sectors.length c_y326_sectors), (Value.slice a_y326_pending sync_1.1.pending.length c_y326_pending), (Value.int .i64 sync_1.1.left), (Value.bool sync_1.1.stopped)].toArray 25)] 3)
                              replace f_g91 := f_g91.step (Step.drop _ _ [(some b601, Obj.cells [].toArray 39), (some b328, Obj.cells [(Value.slice a_y326_sectors sync_1.1.sectors.length c_y326_sectors), (Value.slice a_y326_pending sync_1.1.pending.length c_y326_pending), (Value.int .i64 sync_1.1.left), (Value.bool sync_1.1.stopped)].toArray 25), (some b135, Obj.cells [(Value.bool ((script.getD i_1.toNat default).sync)), (Value.int .u8 (((script.getD i_1.toNat default).at_).toNat : Int)), (Value.int .u8 (((script.getD i_1.toNat default).byte).toNat : Int))].toArray 39), (k_g86, o_g86), (some b73, o_g337), (some b67, o_g338), (some b61, o_g91), (some b24, Obj.cells [(Value.slice a_y326_sectors sync_1.1.sectors.length c_y326_sectors), (Value.slice a_y326_pending sync_1.1.pending.length c_y326_pending), (Value.int .i64 sync_1.1.left), (Value.bool sync_1.1.stopped)].toArray 25)] 3)
                              replace f_y326_sectors := f_y326_sectors.step (Step.drop _ _ [(some b601, Obj.cells [].toArray 39), (some b328, Obj.cells [(Value.slice a_y326_sectors sync_1.1.sectors.length c_y326_sectors), (Value.slice a_y326_pending sync_1.1.pending.length c_y326_pending), (Value.int .i64 sync_1.1.left), (Value.bool sync_1.1.stopped)].toArray 25), (some b135, Obj.cells [(Value.bool ((script.getD i_1.toNat default).sync)), (Value.int .u8 (((script.getD i_1.toNat default).at_).toNat : Int)), (Value.int .u8 (((script.getD i_1.toNat default).byte).toNat : Int))].toArray 39), (k_g86, o_g86), (some b73, o_g337), (some b67, o_g338), (some b61, o_g91), (some b24, Obj.cells [(Value.slice a_y326_sectors sync_1.1.sectors.length c_y326_sectors), (Value.slice a_y326_pending sync_1.1.pending.length c_y326_pending), (Value.int .i64 sync_1.1.left), (Value.bool sync_1.1.stopped)].toArray 25)] 3)
                              replace f_y326_pending := f_y326_pending.step (Step.drop _ _ [(some b601, Obj.cells [].toArray 39), (some b328, Obj.cells [(Value.slice a_y326_sectors sync_1.1.sectors.length c_y326_sectors), (Value.slice a_y326_pending sync_1.1.pending.length c_y326_pending), (Value.int .i64 sync_1.1.left), (Value.bool sync_1.1.stopped)].toArray 25), (some b135, Obj.cells [(Value.bool ((script.getD i_1.toNat default).sync)), (Value.int .u8 (((script.getD i_1.toNat default).at_).toNat : Int)), (Value.int .u8 (((script.getD i_1.toNat default).byte).toNat : Int))].toArray 39), (k_g86, o_g86), (some b73, o_g337), (some b67, o_g338), (some b61, o_g91), (some b24, Obj.cells [(Value.slice a_y326_sectors sync_1.1.sectors.length c_y326_sectors), (Value.slice a_y326_pending sync_1.1.pending.length c_y326_pending), (Value.int .i64 sync_1.1.left), (Value.bool sync_1.1.stopped)].toArray 25)] 3)
                              replace f_g337 := f_g337.step (Step.drop _ _ [(some b601, Obj.cells [].toArray 39), (some b328, Obj.cells [(Value.slice a_y326_sectors sync_1.1.sectors.length c_y326_sectors), (Value.slice a_y326_pending sync_1.1.pending.length c_y326_pending), (Value.int .i64 sync_1.1.left), (Value.bool sync_1.1.stopped)].toArray 25), (some b135, Obj.cells [(Value.bool ((script.getD i_1.toNat default).sync)), (Value.int .u8 (((script.getD i_1.toNat default).at_).toNat : Int)), (Value.int .u8 (((script.getD i_1.toNat default).byte).toNat : Int))].toArray 39), (k_g86, o_g86), (some b73, o_g337), (some b67, o_g338), (some b61, o_g91), (some b24, Obj.cells [(Value.slice a_y326_sectors sync_1.1.sectors.length c_y326_sectors), (Value.slice a_y326_pending sync_1.1.pending.length c_y326_pending), (Value.int .i64 sync_1.1.left), (Value.bool sync_1.1.stopped)].toArray 25)] 3)
                              replace f_g338 := f_g338.step (Step.drop _ _ [(some b601, Obj.cells [].toArray 39), (some b328, Obj.cells [(Value.slice a_y326_sectors sync_1.1.sectors.length c_y326_sectors), (Value.slice a_y326_pending sync_1.1.pending.length c_y326_pending), (Value.int .i64 sync_1.1.left), (Value.bool sync_1.1.stopped)].toArray 25), (some b135, Obj.cells [(Value.bool ((script.getD i_1.toNat default).sync)), (Value.int .u8 (((script.getD i_1.toNat default).at_).toNat : Int)), (Value.int .u8 (((script.getD i_1.toNat default).byte).toNat : Int))].toArray 39), (k_g86, o_g86), (some b73, o_g337), (some b67, o_g338), (some b61, o_g91), (some b24, Obj.cells [(Value.slice a_y326_sectors sync_1.1.sectors.length c_y326_sectors), (Value.slice a_y326_pending sync_1.1.pending.length c_y326_pending), (Value.int .i64 sync_1.1.left), (Value.bool sync_1.1.stopped)].toArray 25)] 3)
                              replace f612 := f612.step (Step.drop _ _ [(some b601, Obj.cells [].toArray 39), (some b328, Obj.cells [(Value.slice a_y326_sectors sync_1.1.sectors.length c_y326_sectors), (Value.slice a_y326_pending sync_1.1.pending.length c_y326_pending), (Value.int .i64 sync_1.1.left), (Value.bool sync_1.1.stopped)].toArray 25), (some b135, Obj.cells [(Value.bool ((script.getD i_1.toNat default).sync)), (Value.int .u8 (((script.getD i_1.toNat default).at_).toNat : Int)), (Value.int .u8 (((script.getD i_1.toNat default).byte).toNat : Int))].toArray 39), (k_g86, o_g86), (some b73, o_g337), (some b67, o_g338), (some b61, o_g91), (some b24, Obj.cells [(Value.slice a_y326_sectors sync_1.1.sectors.length c_y326_sectors), (Value.slice a_y326_pending sync_1.1.pending.length c_y326_pending), (Value.int .i64 sync_1.1.left), (Value.bool sync_1.1.stopped)].toArray 25)] 3)
                              replace f615 := f615.step (Step.drop _ _ [(some b601, Obj.cells [].toArray 39), (some b328, Obj.cells [(Value.slice a_y326_sectors sync_1.1.sectors.length c_y326_sectors), (Value.slice a_y326_pending sync_1.1.pending.length c_y326_pending), (Value.int .i64 sync_1.1.left), (Value.bool sync_1.1.stopped)].toArray 25), (some b135, Obj.cells [(Value.bool ((script.getD i_1.toNat default).sync)), (Value.int .u8 (((script.getD i_1.toNat default).at_).toNat : Int)), (Value.int .u8 (((script.getD i_1.toNat default).byte).toNat : Int))].toArray 39), (k_g86, o_g86), (some b73, o_g337), (some b67, o_g338), (some b61, o_g91), (some b24, Obj.cells [(Value.slice a_y326_sectors sync_1.1.sectors.length c_y326_sectors), (Value.slice a_y326_pending sync_1.1.pending.length c_y326_pending), (Value.int .i64 sync_1.1.left), (Value.bool sync_1.1.stopped)].toArray 25)] 3)
                              replace f626 := f626.step (Step.drop _ _ [(some b601, Obj.cells [].toArray 39), (some b328, Obj.cells [(Value.slice a_y326_sectors sync_1.1.sectors.length c_y326_sectors), (Value.slice a_y326_pending sync_1.1.pending.length c_y326_pending), (Value.int .i64 sync_1.1.left), (Value.bool sync_1.1.stopped)].toArray 25), (some b135, Obj.cells [(Value.bool ((script.getD i_1.toNat default).sync)), (Value.int .u8 (((script.getD i_1.toNat default).at_).toNat : Int)), (Value.int .u8 (((script.getD i_1.toNat default).byte).toNat : Int))].toArray 39), (k_g86, o_g86), (some b73, o_g337), (some b67, o_g338), (some b61, o_g91), (some b24, Obj.cells [(Value.slice a_y326_sectors sync_1.1.sectors.length c_y326_sectors), (Value.slice a_y326_pending sync_1.1.pending.length c_y326_pending), (Value.int .i64 sync_1.1.left), (Value.bool sync_1.1.stopped)].toArray 25)] 3)
                              replace ch107 := ch107.trans (Step.drop _ _ [(some b601, Obj.cells [].toArray 39), (some b328, Obj.cells [(Value.slice a_y326_sectors sync_1.1.sectors.length c_y326_sectors), (Value.slice a_y326_pending sync_1.1.pending.length c_y326_pending), (Value.int .i64 sync_1.1.left), (Value.bool sync_1.1.stopped)].toArray 25), (some b135, Obj.cells [(Value.bool ((script.getD i_1.toNat default).sync)), (Value.int .u8 (((script.getD i_1.toNat default).at_).toNat : Int)), (Value.int .u8 (((script.getD i_1.toNat default).byte).toNat : Int))].toArray 39), (k_g86, o_g86), (some b73, o_g337), (some b67, o_g338), (some b61, o_g91), (some b24, Obj.cells [(Value.slice a_y326_sectors sync_1.1.sectors.length c_y326_sectors), (Value.slice a_y326_pending sync_1.1.pending.length c_y326_pending), (Value.int .i64 sync_1.1.left), (Value.bool sync_1.1.stopped)].toArray 25)] 3)
                              replace ch128 := ch128.trans (Step.drop _ _ [(some b601, Obj.cells [].toArray 39), (some b328, Obj.cells [(Value.slice a_y326_sectors sync_1.1.sectors.length c_y326_sectors), (Value.slice a_y326_pending sync_1.1.pending.length c_y326_pending), (Value.int .i64 sync_1.1.left), (Value.bool sync_1.1.stopped)].toArray 25), (some b135, Obj.cells [(Value.bool ((script.getD i_1.toNat default).sync)), (Value.int .u8 (((script.getD i_1.toNat default).at_).toNat : Int)), (Value.int .u8 (((script.getD i_1.toNat default).byte).toNat : Int))].toArray 39), (k_g86, o_g86), (some b73, o_g337), (some b67, o_g338), (some b61, o_g91), (some b24, Obj.cells [(Value.slice a_y326_sectors sync_1.1.sectors.length c_y326_sectors), (Value.slice a_y326_pending sync_1.1.pending.length c_y326_pending), (Value.int .i64 sync_1.1.left), (Value.bool sync_1.1.stopped)].toArray 25)] 3)
                              replace ch349 := ch349.trans (Step.drop _ _ [(some b601, Obj.cells [].toArray 39), (some b328, Obj.cells [(Value.slice a_y326_sectors sync_1.1.sectors.length c_y326_sectors), (Value.slice a_y326_pending sync_1.1.pending.length c_y326_pending), (Value.int .i64 sync_1.1.left), (Value.bool sync_1.1.stopped)].toArray 25), (some b135, Obj.cells [(Value.bool ((script.getD i_1.toNat default).sync)), (Value.int .u8 (((script.getD i_1.toNat default).at_).toNat : Int)), (Value.int .u8 (((script.getD i_1.toNat default).byte).toNat : Int))].toArray 39), (k_g86, o_g86), (some b73, o_g337), (some b67, o_g338), (some b61, o_g91), (some b24, Obj.cells [(Value.slice a_y326_sectors sync_1.1.sectors.length c_y326_sectors), (Value.slice a_y326_pending sync_1.1.pending.length c_y326_pending), (Value.int .i64 sync_1.1.left), (Value.bool sync_1.1.stopped)].toArray 25)] 3)
                              clear hs621
                              have hs628 := hs627.drop 2
                              replace f_script := f_script.step (Step.drop _ _ [(some b601, Obj.cells [].toArray 39), (some b328, Obj.cells [(Value.slice a_y326_sectors sync_1.1.sectors.length c_y326_sectors), (Value.slice a_y326_pending sync_1.1.pending.length c_y326_pending), (Value.int .i64 sync_1.1.left), (Value.bool sync_1.1.stopped)].toArray 25), (some b135, Obj.cells [(Value.bool ((script.getD i_1.toNat default).sync)), (Value.int .u8 (((script.getD i_1.toNat default).at_).toNat : Int)), (Value.int .u8 (((script.getD i_1.toNat default).byte).toNat : Int))].toArray 39), (some b73, o_g337), (some b67, o_g338), (some b61, o_g91), (some b24, Obj.cells [(Value.slice a_y326_sectors sync_1.1.sectors.length c_y326_sectors), (Value.slice a_y326_pending sync_1.1.pending.length c_y326_pending), (Value.int .i64 sync_1.1.left), (Value.bool sync_1.1.stopped)].toArray 25)] 2)
                              replace f_g91 := f_g91.step (Step.drop _ _ [(some b601, Obj.cells [].toArray 39), (some b328, Obj.cells [(Value.slice a_y326_sectors sync_1.1.sectors.length c_y326_sectors), (Value.slice a_y326_pending sync_1.1.pending.length c_y326_pending), (Value.int .i64 sync_1.1.left), (Value.bool sync_1.1.stopped)].toArray 25), (some b135, Obj.cells [(Value.bool ((script.getD i_1.toNat default).sync)), (Value.int .u8 (((script.getD i_1.toNat default).at_).toNat : Int)), (Value.int .u8 (((script.getD i_1.toNat default).byte).toNat : Int))].toArray 39), (some b73, o_g337), (some b67, o_g338), (some b61, o_g91), (some b24, Obj.cells [(Value.slice a_y326_sectors sync_1.1.sectors.length c_y326_sectors), (Value.slice a_y326_pending sync_1.1.pending.length c_y326_pending), (Value.int .i64 sync_1.1.left), (Value.bool sync_1.1.stopped)].toArray 25)] 2)
                              replace f_y326_sectors := f_y326_sectors.step (Step.drop _ _ [(some b601, Obj.cells [].toArray 39), (some b328, Obj.cells [(Value.slice a_y326_sectors sync_1.1.sectors.length c_y326_sectors), (Value.slice a_y326_pending sync_1.1.pending.length c_y326_pending), (Value.int .i64 sync_1.1.left), (Value.bool sync_1.1.stopped)].toArray 25), (some b135, Obj.cells [(Value.bool ((script.getD i_1.toNat default).sync)), (Value.int .u8 (((script.getD i_1.toNat default).at_).toNat : Int)), (Value.int .u8 (((script.getD i_1.toNat default).byte).toNat : Int))].toArray 39), (some b73, o_g337), (some b67, o_g338), (some b61, o_g91), (some b24, Obj.cells [(Value.slice a_y326_sectors sync_1.1.sectors.length c_y326_sectors), (Value.slice a_y326_pending sync_1.1.pending.length c_y326_pending), (Value.int .i64 sync_1.1.left), (Value.bool sync_1.1.stopped)].toArray 25)] 2)
                              replace f_y326_pending := f_y326_pending.step (Step.drop _ _ [(some b601, Obj.cells [].toArray 39), (some b328, Obj.cells [(Value.slice a_y326_sectors sync_1.1.sectors.length c_y326_sectors), (Value.slice a_y326_pending sync_1.1.pending.length c_y326_pending), (Value.int .i64 sync_1.1.left), (Value.bool sync_1.1.stopped)].toArray 25), (some b135, Obj.cells [(Value.bool ((script.getD i_1.toNat default).sync)), (Value.int .u8 (((script.getD i_1.toNat default).at_).toNat : Int)), (Value.int .u8 (((script.getD i_1.toNat default).byte).toNat : Int))].toArray 39), (some b73, o_g337), (some b67, o_g338), (some b61, o_g91), (some b24, Obj.cells [(Value.slice a_y326_sectors sync_1.1.sectors.length c_y326_sectors), (Value.slice a_y326_pending sync_1.1.pending.length c_y326_pending), (Value.int .i64 sync_1.1.left), (Value.bool sync_1.1.stopped)].toArray 25)] 2)
                              replace f_g337 := f_g337.step (Step.drop _ _ [(some b601, Obj.cells [].toArray 39), (some b328, Obj.cells [(Value.slice a_y326_sectors sync_1.1.sectors.length c_y326_sectors), (Value.slice a_y326_pending sync_1.1.pending.length c_y326_pending), (Value.int .i64 sync_1.1.left), (Value.bool sync_1.1.stopped)].toArray 25), (some b135, Obj.cells [(Value.bool ((script.getD i_1.toNat default).sync)), (Value.int .u8 (((script.getD i_1.toNat default).at_).toNat : Int)), (Value.int .u8 (((script.getD i_1.toNat default).byte).toNat : Int))].toArray 39), (some b73, o_g337), (some b67, o_g338), (some b61, o_g91), (some b24, Obj.cells [(Value.slice a_y326_sectors sync_1.1.sectors.length c_y326_sectors), (Value.slice a_y326_pending sync_1.1.pending.length c_y326_pending), (Value.int .i64 sync_1.1.left), (Value.bool sync_1.1.stopped)].toArray 25)] 2)
                              replace f_g338 := f_g338.step (Step.drop _ _ [(some b601, Obj.cells [].toArray 39), (some b328, Obj.cells [(Value.slice a_y326_sectors sync_1.1.sectors.length c_y326_sectors), (Value.slice a_y326_pending sync_1.1.pending.length c_y326_pending), (Value.int .i64 sync_1.1.left), (Value.bool sync_1.1.stopped)].toArray 25), (some b135, Obj.cells [(Value.bool ((script.getD i_1.toNat default).sync)), (Value.int .u8 (((script.getD i_1.toNat default).at_).toNat : Int)), (Value.int .u8 (((script.getD i_1.toNat default).byte).toNat : Int))].toArray 39), (some b73, o_g337), (some b67, o_g338), (some b61, o_g91), (some b24, Obj.cells [(Value.slice a_y326_sectors sync_1.1.sectors.length c_y326_sectors), (Value.slice a_y326_pending sync_1.1.pending.length c_y326_pending), (Value.int .i64 sync_1.1.left), (Value.bool sync_1.1.stopped)].toArray 25)] 2)
                              replace f612 := f612.step (Step.drop _ _ [(some b601, Obj.cells [].toArray 39), (some b328, Obj.cells [(Value.slice a_y326_sectors sync_1.1.sectors.length c_y326_sectors), (Value.slice a_y326_pending sync_1.1.pending.length c_y326_pending), (Value.int .i64 sync_1.1.left), (Value.bool sync_1.1.stopped)].toArray 25), (some b135, Obj.cells [(Value.bool ((script.getD i_1.toNat default).sync)), (Value.int .u8 (((script.getD i_1.toNat default).at_).toNat : Int)), (Value.int .u8 (((script.getD i_1.toNat default).byte).toNat : Int))].toArray 39), (some b73, o_g337), (some b67, o_g338), (some b61, o_g91), (some b24, Obj.cells [(Value.slice a_y326_sectors sync_1.1.sectors.length c_y326_sectors), (Value.slice a_y326_pending sync_1.1.pending.length c_y326_pending), (Value.int .i64 sync_1.1.left), (Value.bool sync_1.1.stopped)].toArray 25)] 2)
                              replace f615 := f615.step (Step.drop _ _ [(some b601, Obj.cells [].toArray 39), (some b328, Obj.cells [(Value.slice a_y326_sectors sync_1.1.sectors.length c_y326_sectors), (Value.slice a_y326_pending sync_1.1.pending.length c_y326_pending), (Value.int .i64 sync_1.1.left), (Value.bool sync_1.1.stopped)].toArray 25), (some b135, Obj.cells [(Value.bool ((script.getD i_1.toNat default).sync)), (Value.int .u8 (((script.getD i_1.toNat default).at_).toNat : Int)), (Value.int .u8 (((script.getD i_1.toNat default).byte).toNat : Int))].toArray 39), (some b73, o_g337), (some b67, o_g338), (some b61, o_g91), (some b24, Obj.cells [(Value.slice a_y326_sectors sync_1.1.sectors.length c_y326_sectors), (Value.slice a_y326_pending sync_1.1.pending.length c_y326_pending), (Value.int .i64 sync_1.1.left), (Value.bool sync_1.1.stopped)].toArray 25)] 2)
                              replace f626 := f626.step (Step.drop _ _ [(some b601, Obj.cells [].toArray 39), (some b328, Obj.cells [(Value.slice a_y326_sectors sync_1.1.sectors.length c_y326_sectors), (Value.slice a_y326_pending sync_1.1.pending.length c_y326_pending), (Value.int .i64 sync_1.1.left), (Value.bool sync_1.1.stopped)].toArray 25), (some b135, Obj.cells [(Value.bool ((script.getD i_1.toNat default).sync)), (Value.int .u8 (((script.getD i_1.toNat default).at_).toNat : Int)), (Value.int .u8 (((script.getD i_1.toNat default).byte).toNat : Int))].toArray 39), (some b73, o_g337), (some b67, o_g338), (some b61, o_g91), (some b24, Obj.cells [(Value.slice a_y326_sectors sync_1.1.sectors.length c_y326_sectors), (Value.slice a_y326_pending sync_1.1.pending.length c_y326_pending), (Value.int .i64 sync_1.1.left), (Value.bool sync_1.1.stopped)].toArray 25)] 2)
                              replace ch107 := ch107.trans (Step.drop _ _ [(some b601, Obj.cells [].toArray 39), (some b328, Obj.cells [(Value.slice a_y326_sectors sync_1.1.sectors.length c_y326_sectors), (Value.slice a_y326_pending sync_1.1.pending.length c_y326_pending), (Value.int .i64 sync_1.1.left), (Value.bool sync_1.1.stopped)].toArray 25), (some b135, Obj.cells [(Value.bool ((script.getD i_1.toNat default).sync)), (Value.int .u8 (((script.getD i_1.toNat default).at_).toNat : Int)), (Value.int .u8 (((script.getD i_1.toNat default).byte).toNat : Int))].toArray 39), (some b73, o_g337), (some b67, o_g338), (some b61, o_g91), (some b24, Obj.cells [(Value.slice a_y326_sectors sync_1.1.sectors.length c_y326_sectors), (Value.slice a_y326_pending sync_1.1.pending.length c_y326_pending), (Value.int .i64 sync_1.1.left), (Value.bool sync_1.1.stopped)].toArray 25)] 2)
                              replace ch128 := ch128.trans (Step.drop _ _ [(some b601, Obj.cells [].toArray 39), (some b328, Obj.cells [(Value.slice a_y326_sectors sync_1.1.sectors.length c_y326_sectors), (Value.slice a_y326_pending sync_1.1.pending.length c_y326_pending), (Value.int .i64 sync_1.1.left), (Value.bool sync_1.1.stopped)].toArray 25), (some b135, Obj.cells [(Value.bool ((script.getD i_1.toNat default).sync)), (Value.int .u8 (((script.getD i_1.toNat default).at_).toNat : Int)), (Value.int .u8 (((script.getD i_1.toNat default).byte).toNat : Int))].toArray 39), (some b73, o_g337), (some b67, o_g338), (some b61, o_g91), (some b24, Obj.cells [(Value.slice a_y326_sectors sync_1.1.sectors.length c_y326_sectors), (Value.slice a_y326_pending sync_1.1.pending.length c_y326_pending), (Value.int .i64 sync_1.1.left), (Value.bool sync_1.1.stopped)].toArray 25)] 2)
                              replace ch349 := ch349.trans (Step.drop _ _ [(some b601, Obj.cells [].toArray 39), (some b328, Obj.cells [(Value.slice a_y326_sectors sync_1.1.sectors.length c_y326_sectors), (Value.slice a_y326_pending sync_1.1.pending.length c_y326_pending), (Value.int .i64 sync_1.1.left), (Value.bool sync_1.1.stopped)].toArray 25), (some b135, Obj.cells [(Value.bool ((script.getD i_1.toNat default).sync)), (Value.int .u8 (((script.getD i_1.toNat default).at_).toNat : Int)), (Value.int .u8 (((script.getD i_1.toNat default).byte).toNat : Int))].toArray 39), (some b73, o_g337), (some b67, o_g338), (some b61, o_g91), (some b24, Obj.cells [(Value.slice a_y326_sectors sync_1.1.sectors.length c_y326_sectors), (Value.slice a_y326_pending sync_1.1.pending.length c_y326_pending), (Value.int .i64 sync_1.1.left), (Value.bool sync_1.1.stopped)].toArray 25)] 2)
                              clear hs627
                              have hs629 := hs628.drop 1
                              replace f_script := f_script.step (Step.drop _ _ [(some b601, Obj.cells [].toArray 39), (some b328, Obj.cells [(Value.slice a_y326_sectors sync_1.1.sectors.length c_y326_sectors), (Value.slice a_y326_pending sync_1.1.pending.length c_y326_pending), (Value.int .i64 sync_1.1.left), (Value.bool sync_1.1.stopped)].toArray 25), (some b73, o_g337), (some b67, o_g338), (some b61, o_g91), (some b24, Obj.cells [(Value.slice a_y326_sectors sync_1.1.sectors.length c_y326_sectors), (Value.slice a_y326_pending sync_1.1.pending.length c_y326_pending), (Value.int .i64 sync_1.1.left), (Value.bool sync_1.1.stopped)].toArray 25)] 1)
                              replace f_g91 := f_g91.step (Step.drop _ _ [(some b601, Obj.cells [].toArray 39), (some b328, Obj.cells [(Value.slice a_y326_sectors sync_1.1.sectors.length c_y326_sectors), (Value.slice a_y326_pending sync_1.1.pending.length c_y326_pending), (Value.int .i64 sync_1.1.left), (Value.bool sync_1.1.stopped)].toArray 25), (some b73, o_g337), (some b67, o_g338), (some b61, o_g91), (some b24, Obj.cells [(Value.slice a_y326_sectors sync_1.1.sectors.length c_y326_sectors), (Value.slice a_y326_pending sync_1.1.pending.length c_y326_pending), (Value.int .i64 sync_1.1.left), (Value.bool sync_1.1.stopped)].toArray 25)] 1)
                              replace f_y326_sectors := f_y326_sectors.step (Step.drop _ _ [(some b601, Obj.cells [].toArray 39), (some b328, Obj.cells [(Value.slice a_y326_sectors sync_1.1.sectors.length c_y326_sectors), (Value.slice a_y326_pending sync_1.1.pending.length c_y326_pending), (Value.int .i64 sync_1.1.left), (Value.bool sync_1.1.stopped)].toArray 25), (some b73, o_g337), (some b67, o_g338), (some b61, o_g91), (some b24, Obj.cells [(Value.slice a_y326_sectors sync_1.1.sectors.length c_y326_sectors), (Value.slice a_y326_pending sync_1.1.pending.length c_y326_pending), (Value.int .i64 sync_1.1.left), (Value.bool sync_1.1.stopped)].toArray 25)] 1)
                              replace f_y326_pending := f_y326_pending.step (Step.drop _ _ [(some b601, Obj.cells [].toArray 39), (some b328, Obj.cells [(Value.slice a_y326_sectors sync_1.1.sectors.length c_y326_sectors), (Value.slice a_y326_pending sync_1.1.pending.length c_y326_pending), (Value.int .i64 sync_1.1.left), (Value.bool sync_1.1.stopped)].toArray 25), (some b73, o_g337), (some b67, o_g338), (some b61, o_g91), (some b24, Obj.cells [(Value.slice a_y326_sectors sync_1.1.sectors.length c_y326_sectors), (Value.slice a_y326_pending sync_1.1.pending.length c_y326_pending), (Value.int .i64 sync_1.1.left), (Value.bool sync_1.1.stopped)].toArray 25)] 1)
                              replace f_g337 := f_g337.step (Step.drop _ _ [(some b601, Obj.cells [].toArray 39), (some b328, Obj.cells [(Value.slice a_y326_sectors sync_1.1.sectors.length c_y326_sectors), (Value.slice a_y326_pending sync_1.1.pending.length c_y326_pending), (Value.int .i64 sync_1.1.left), (Value.bool sync_1.1.stopped)].toArray 25), (some b73, o_g337), (some b67, o_g338), (some b61, o_g91), (some b24, Obj.cells [(Value.slice a_y326_sectors sync_1.1.sectors.length c_y326_sectors), (Value.slice a_y326_pending sync_1.1.pending.length c_y326_pending), (Value.int .i64 sync_1.1.left), (Value.bool sync_1.1.stopped)].toArray 25)] 1)
                              replace f_g338 := f_g338.step (Step.drop _ _ [(some b601, Obj.cells [].toArray 39), (some b328, Obj.cells [(Value.slice a_y326_sectors sync_1.1.sectors.length c_y326_sectors), (Value.slice a_y326_pending sync_1.1.pending.length c_y326_pending), (Value.int .i64 sync_1.1.left), (Value.bool sync_1.1.stopped)].toArray 25), (some b73, o_g337), (some b67, o_g338), (some b61, o_g91), (some b24, Obj.cells [(Value.slice a_y326_sectors sync_1.1.sectors.length c_y326_sectors), (Value.slice a_y326_pending sync_1.1.pending.length c_y326_pending), (Value.int .i64 sync_1.1.left), (Value.bool sync_1.1.stopped)].toArray 25)] 1)
                              replace f612 := f612.step (Step.drop _ _ [(some b601, Obj.cells [].toArray 39), (some b328, Obj.cells [(Value.slice a_y326_sectors sync_1.1.sectors.length c_y326_sectors), (Value.slice a_y326_pending sync_1.1.pending.length c_y326_pending), (Value.int .i64 sync_1.1.left), (Value.bool sync_1.1.stopped)].toArray 25), (some b73, o_g337), (some b67, o_g338), (some b61, o_g91), (some b24, Obj.cells [(Value.slice a_y326_sectors sync_1.1.sectors.length c_y326_sectors), (Value.slice a_y326_pending sync_1.1.pending.length c_y326_pending), (Value.int .i64 sync_1.1.left), (Value.bool sync_1.1.stopped)].toArray 25)] 1)
                              replace f615 := f615.step (Step.drop _ _ [(some b601, Obj.cells [].toArray 39), (some b328, Obj.cells [(Value.slice a_y326_sectors sync_1.1.sectors.length c_y326_sectors), (Value.slice a_y326_pending sync_1.1.pending.length c_y326_pending), (Value.int .i64 sync_1.1.left), (Value.bool sync_1.1.stopped)].toArray 25), (some b73, o_g337), (some b67, o_g338), (some b61, o_g91), (some b24, Obj.cells [(Value.slice a_y326_sectors sync_1.1.sectors.length c_y326_sectors), (Value.slice a_y326_pending sync_1.1.pending.length c_y326_pending), (Value.int .i64 sync_1.1.left), (Value.bool sync_1.1.stopped)].toArray 25)] 1)
                              replace f626 := f626.step (Step.drop _ _ [(some b601, Obj.cells [].toArray 39), (some b328, Obj.cells [(Value.slice a_y326_sectors sync_1.1.sectors.length c_y326_sectors), (Value.slice a_y326_pending sync_1.1.pending.length c_y326_pending), (Value.int .i64 sync_1.1.left), (Value.bool sync_1.1.stopped)].toArray 25), (some b73, o_g337), (some b67, o_g338), (some b61, o_g91), (some b24, Obj.cells [(Value.slice a_y326_sectors sync_1.1.sectors.length c_y326_sectors), (Value.slice a_y326_pending sync_1.1.pending.length c_y326_pending), (Value.int .i64 sync_1.1.left), (Value.bool sync_1.1.stopped)].toArray 25)] 1)
                              replace ch107 := ch107.trans (Step.drop _ _ [(some b601, Obj.cells [].toArray 39), (some b328, Obj.cells [(Value.slice a_y326_sectors sync_1.1.sectors.length c_y326_sectors), (Value.slice a_y326_pending sync_1.1.pending.length c_y326_pending), (Value.int .i64 sync_1.1.left), (Value.bool sync_1.1.stopped)].toArray 25), (some b73, o_g337), (some b67, o_g338), (some b61, o_g91), (some b24, Obj.cells [(Value.slice a_y326_sectors sync_1.1.sectors.length c_y326_sectors), (Value.slice a_y326_pending sync_1.1.pending.length c_y326_pending), (Value.int .i64 sync_1.1.left), (Value.bool sync_1.1.stopped)].toArray 25)] 1)
                              replace ch128 := ch128.trans (Step.drop _ _ [(some b601, Obj.cells [].toArray 39), (some b328, Obj.cells [(Value.slice a_y326_sectors sync_1.1.sectors.length c_y326_sectors), (Value.slice a_y326_pending sync_1.1.pending.length c_y326_pending), (Value.int .i64 sync_1.1.left), (Value.bool sync_1.1.stopped)].toArray 25), (some b73, o_g337), (some b67, o_g338), (some b61, o_g91), (some b24, Obj.cells [(Value.slice a_y326_sectors sync_1.1.sectors.length c_y326_sectors), (Value.slice a_y326_pending sync_1.1.pending.length c_y326_pending), (Value.int .i64 sync_1.1.left), (Value.bool sync_1.1.stopped)].toArray 25)] 1)
                              replace ch349 := ch349.trans (Step.drop _ _ [(some b601, Obj.cells [].toArray 39), (some b328, Obj.cells [(Value.slice a_y326_sectors sync_1.1.sectors.length c_y326_sectors), (Value.slice a_y326_pending sync_1.1.pending.length c_y326_pending), (Value.int .i64 sync_1.1.left), (Value.bool sync_1.1.stopped)].toArray 25), (some b73, o_g337), (some b67, o_g338), (some b61, o_g91), (some b24, Obj.cells [(Value.slice a_y326_sectors sync_1.1.sectors.length c_y326_sectors), (Value.slice a_y326_pending sync_1.1.pending.length c_y326_pending), (Value.int .i64 sync_1.1.left), (Value.bool sync_1.1.stopped)].toArray 25)] 1)
                              clear hs628
                              exact hK122 _ _ ⟨[], (IntKind.wrap .i64 (room_1 - (waiting_1.length : Int))), arr_7, arr_8, arr_3, sync_1.1.sectors, sync_1.1.pending, sync_1.1.left, sync_1.1.stopped, (some ⟨b601, 0, none⟩), 0, (some b601), (Obj.cells [].toArray 39), o_g337, o_g338, o_g91, a_y326_sectors, c_y326_sectors, a_y326_pending, c_y326_pending, _, rfl, ⟨(by repeat (first | with_reducible exact Out.refl _ _ | refine Out.upd ?_ rfl | refine Out.updL ?_ rfl | refine Out.mix' ?_ rfl | exact Out.refl _ _)), rfl, rfl, rfl, trivial⟩, ch128, hs629, f626, (inK_wrap .i64 _), f_g337, f_g338, f_g91, f_y326_sectors, f_y326_pending, r_y326_left, hm⟩
                    ·
                      intro K354 hK354
                      have ch630 := Step.refl (ks [(some b328, Obj.cells [(Value.slice a_y326_sectors sync_1.1.sectors.length c_y326_sectors), (Value.slice a_y326_pending sync_1.1.pending.length c_y326_pending), (Value.int .i64 sync_1.1.left), (Value.bool sync_1.1.stopped)].toArray 25), (some b135, Obj.cells [(Value.bool ((script.getD i_1.toNat default).sync)), (Value.int .u8 (((script.getD i_1.toNat default).at_).toNat : Int)), (Value.int .u8 (((script.getD i_1.toNat default).byte).toNat : Int))].toArray 39), (k_g86, o_g86), (some b73, o_g337), (some b67, o_g338), (some b61, o_g91), (some b24, Obj.cells [(Value.slice a_y92 v_2.length c_y92), (Value.slice a_y93 v_3.length c_y93), (Value.int .i64 v_4), (Value.bool v_5)].toArray 25)] O) w344
                      clear f_g89 f_g90
                      refine Wp_region ?_  -- 26 law.go:128
                      refine Rg_op rfl (op_move (v := (Value.int .i64 k_1)) rfl ?_)
                      refine Rg_op rfl (op_move (v := (Value.slice a_g86 waiting_1.length c_g86)) rfl ?_)
                      refine Rg_op rfl (op_len Try.underlying35 rfl ?_)
                      refine Rg_op rfl (op_lss rfl rfl ?_)
                      refine Rg_op rfl (op_move (v := (Value.bool (decide (k_1 < (waiting_1.length : Int))))) rfl ?_)
                      refine Rg_case (fun hg631 => ?_) (fun hg631 => ?_)
                      ·
                        replace hm := bif_t hm hg631
                        refine Rg_opg rfl rfl rfl (op_move (v := (Value.int .i64 k_1)) rfl ?_)
                        refine Rg_opg rfl rfl rfl (op_move (v := (Value.int .i64 room_1)) rfl ?_)
                        refine Rg_opg rfl rfl rfl (op_leq rfl rfl ?_)
                        refine Rg_op rfl (op_pick_t (v := (Value.bool (decide (k_1 ≤ room_1)))) rfl rfl ?_)
                        refine Rg_nil ?_
                        exact hK354 _ _ ⟨(decide (k_1 ≤ room_1)), _, rfl, ⟨(by repeat (first | with_reducible exact Out.refl _ _ | refine Out.upd ?_ rfl | refine Out.updL ?_ rfl | refine Out.mix' ?_ rfl | exact Out.refl _ _)), rfl, rfl, trivial⟩, ch630, hs345, hm⟩
                      ·
                        replace hm := bif_f hm hg631
                        refine Rg_opx rfl (asB_ne rfl rfl) rfl ?_
                        refine Rg_opx rfl (asB_ne rfl rfl) rfl ?_
                        refine Rg_opx rfl (asB_ne rfl rfl) rfl ?_
                        refine Rg_op rfl (op_pick_f (v := (Value.bool false)) rfl rfl ?_)
                        refine Rg_nil ?_
                        exact hK354 _ _ ⟨false, _, rfl, ⟨(by repeat (first | with_reducible exact Out.refl _ _ | refine Out.upd ?_ rfl | refine Out.updL ?_ rfl | refine Out.mix' ?_ rfl | exact Out.refl _ _)), rfl, rfl, trivial⟩, ch630, hs345, hm⟩
            ·
              replace hm := bif_f hm hc108
              refine Wp_exit ?_
              refine Wp_seq ?_
              obtain ⟨hs632, p633⟩ := hs103.sub (bs' := [(some b73, o_g89), (some b67, o_g90), (some b24, Obj.cells [(Value.slice a_y92 v_2.length c_y92), (Value.slice a_y93 v_3.length c_y93), (Value.int .i64 v_4), (Value.bool v_5)].toArray 25)]) (.cons _ (.cons_cons _ (.cons_cons _ (.cons _ (.cons_cons _ List.Sublist.slnil)))))
              clear f_script f_g86 f_g91
              replace f_g89 := f_g89.step p633
              replace f_g90 := f_g90.step p633
              replace f_y92 := f_y92.step p633
              replace f_y93 := f_y93.step p633
              replace ch107 := ch107.trans p633
              clear p633 hs103
              refine Wp_drawR (g0 := []) (m := 4) (fl := []) (TS_inv hs632) (.inl rfl) rfl (by decide +kernel) ?_  -- 40
              refine Dw_eq (Value.agg [(Value.slice a_y92 v_2.length c_y92), (Value.slice a_y93 v_3.length c_y93), (Value.int .i64 v_4), (Value.bool v_5)].toArray) (fun ρ634 w635 g hle hi ht => ?_) ?_
              ·
                obtain ⟨-, hst, -⟩ := hle
                have hsn := (Step.nx hi).1
                refine StepOp_plain (op_loadA (cs := [(Value.slice a_y92 v_2.length c_y92), (Value.slice a_y93 v_3.length c_y93), (Value.int .i64 v_4), (Value.bool v_5)]) (vs := [(Value.slice a_y92 v_2.length c_y92), (Value.slice a_y93 v_3.length c_y93), (Value.int .i64 v_4), (Value.bool v_5)]) (i := 2) ty25 hsn (ht 5 rfl) rfl rfl rfl ?_)
                exact Goes.same hi rfl
              replace hm := bd hm; obtain ⟨restart_2, hv640, hm⟩ := hm
              refine Dw_op (VD O [(some b73, o_g89), (some b67, o_g90), (some b24, Obj.cells [(Value.slice a_y92 v_2.length c_y92), (Value.slice a_y93 v_3.length c_y93), (Value.int .i64 v_4), (Value.bool v_5)].toArray 25)] (vA rXDisk) restart_2) (VD.stab _ _) (fun ρ637 w638 g hle hi ht => ?_) ?_
              ·
                obtain ⟨-, hst, -⟩ := hle
                replace f_y92 := f_y92.step hst
                replace f_y93 := f_y93.step hst
                refine StepOp_plain (op_call Try.call20 (c20_disk_Restart (O := ks (ents g ++ [(some b73, o_g89), (some b67, o_g90), (some b24, Obj.cells [(Value.slice a_y92 v_2.length c_y92), (Value.slice a_y93 v_3.length c_y93), (Value.int .i64 v_4), (Value.bool v_5)].toArray 25)]) O) (d := (⟨v_2, v_3, v_4, v_5⟩ : XDisk)) hi.ltw f_y92 f_y93 r_y94 hv640) (by simp only [List.map, Array.toList, (show ev _ (.tmp 158) = _ from (ht 158 rfl))] <;> rfl) ?_)
                rintro v641 w642 ⟨hx643, h644⟩
                exact Goes.call hi hx643 h644
              replace hm := ck_some hm; obtain ⟨hc649, hm⟩ := hm
              refine Dw_op (VD O [(some b73, o_g89), (some b67, o_g90), (some b24, Obj.cells [(Value.slice a_y92 v_2.length c_y92), (Value.slice a_y93 v_3.length c_y93), (Value.int .i64 v_4), (Value.bool v_5)].toArray 25)] (vArr rU8) arr_2) (VD.stab _ _) (fun ρ646 w647 g hle hi ht => ?_) ?_
              ·
                obtain ⟨-, hst, -⟩ := hle
                replace f_g90 := f_g90.step hst
                have hsn := (Step.nx hi).1
                refine StepOp_plain (op_loadArr (i := 1) ty37 rfl hsn rfl (ht 9 rfl) f_g90 hc649 ?_)
                intro s650 f651
                exact Goes.same hi (show Vr.vd (vArr rU8) _ _ _ _ from ⟨_, rfl, f651⟩)
              replace hm := ck_some hm; obtain ⟨hc655, hm⟩ := hm
              refine Dw_op (VD O [(some b73, o_g89), (some b67, o_g90), (some b24, Obj.cells [(Value.slice a_y92 v_2.length c_y92), (Value.slice a_y93 v_3.length c_y93), (Value.int .i64 v_4), (Value.bool v_5)].toArray 25)] (vArr rU8) arr_1) (VD.stab _ _) (fun ρ652 w653 g hle hi ht => ?_) ?_
              ·
                obtain ⟨-, hst, -⟩ := hle
                replace f_g89 := f_g89.step hst
                have hsn := (Step.nx hi).1
                refine StepOp_plain (op_loadArr (i := 0) ty37 rfl hsn rfl (ht 10 rfl) f_g89 hc655 ?_)
                intro s656 f657
                exact Goes.same hi (show Vr.vd (vArr rU8) _ _ _ _ from ⟨_, rfl, f657⟩)
              refine Dw_nil fun w662 g663 hl664 hi665 => ?_
              obtain ⟨-, hst666, -⟩ := hl664
              obtain ⟨hs668, p667⟩ := Step.nx hi665
              rintro v669 h670
              replace h670 : Vr.vd (vArr rU8) _ _ _ _ := h670
              obtain ⟨s_y671, rfl, f_y671⟩ := h670
              rintro v672 h673
              replace h673 : Vr.vd (vArr rU8) _ _ _ _ := h673
              obtain ⟨s_y674, rfl, f_y674⟩ := h673
              rintro v675 h676
              replace h676 : Vr.vd (vA rXDisk) _ _ _ _ := h676
              obtain ⟨_, rfl, ⟨_, _, rfl, ⟨a_y677_sectors, c_y677_sectors, rfl, f_y677_sectors⟩, ⟨_, _, rfl, ⟨a_y677_pending, c_y677_pending, rfl, f_y677_pending⟩, ⟨_, _, rfl, ⟨rfl, r_y677_left⟩, rfl⟩⟩⟩⟩ := h676
              rintro _ rfl
              have p678 : Step (ks [(some b73, o_g89), (some b67, o_g90), (some b24, Obj.cells [(Value.slice a_y92 v_2.length c_y92), (Value.slice a_y93 v_3.length c_y93), (Value.int .i64 v_4), (Value.bool v_5)].toArray 25)] O) w102 (ks [(some b73, o_g89), (some b67, o_g90), (some b24, Obj.cells [(Value.slice a_y92 v_2.length c_y92), (Value.slice a_y93 v_3.length c_y93), (Value.int .i64 v_4), (Value.bool v_5)].toArray 25)] O) w662 := hst666.trans p667
              replace f_y671 := f_y671.step p667
              replace f_y674 := f_y674.step p667
              replace f_y677_sectors := f_y677_sectors.step p667
              replace f_y677_pending := f_y677_pending.step p667
              replace f_g89 := f_g89.step p678
              replace f_g90 := f_g90.step p678
              replace f_y92 := f_y92.step p678
              replace f_y93 := f_y93.step p678
              replace ch107 := ch107.trans p678
              clear p678 hs632
              replace hm := bd hm; obtain ⟨holds_4, hv679, hm⟩ := hm
              refine Rg_op rfl (op_call Try.call26 (c26_overflightlaw44_holds (d := restart_2) (first := arr_2) (second := arr_1) hs668.ltw f_y677_sectors f_y677_pending r_y677_left f_y674 f_y671 hv679) rfl ?_)
              rintro v680 w681 ⟨hx682, h683⟩
              have hs684 := hs668.call hx682
              have p685 := Step.ext (O := ks [(some b73, o_g89), (some b67, o_g90), (some b24, Obj.cells [(Value.slice a_y92 v_2.length c_y92), (Value.slice a_y93 v_3.length c_y93), (Value.int .i64 v_4), (Value.bool v_5)].toArray 25)] O) hx682
              clear hx682
              replace f_g89 := f_g89.step p685
              replace f_g90 := f_g90.step p685
              replace f_y92 := f_y92.step p685
              replace f_y93 := f_y93.step p685
              replace f_y671 := f_y671.step p685
              replace f_y674 := f_y674.step p685
              replace f_y677_sectors := f_y677_sectors.step p685
              replace f_y677_pending := f_y677_pending.step p685
              replace ch107 := ch107.trans p685
              clear p685 hs668
              obtain rfl := h683
              refine Rg_op rfl (op_assign (v := (Value.bool holds_4)) rfl ?_)
              refine Rg_nil ?_
              refine Wp_ret ?_
              have hz := step_all hs684
              replace f_g89 := f_g89.step hz
              replace f_g90 := f_g90.step hz
              replace f_y92 := f_y92.step hz
              replace f_y93 := f_y93.step hz
              replace f_y671 := f_y671.step hz
              replace f_y674 := f_y674.step hz
              replace f_y677_sectors := f_y677_sectors.step hz
              replace f_y677_pending := f_y677_pending.step hz
              refine ⟨_, (show Closes [] _ _ from rfl), [(Value.bool holds_4)], ⟨rfl, trivial⟩, hs684.ext, ?_⟩
              exact Vr.eq (a := vB) (x := holds_4) rfl (Option.some.inj hm)
      ·
        intro K52 hK52
        have ch687 := Step.refl (ks [(some b24, Obj.cells [(Value.slice a_y43_sectors stop_1.1.sectors.length c_y43_sectors), (Value.slice a_y43_pending stop_1.1.pending.length c_y43_pending), (Value.int .i64 stop_1.1.left), (Value.bool stop_1.1.stopped)].toArray 25)] O) w45
        clear f_y22_sectors f_y22_pending
        refine Wp_region ?_  -- 7 law.go:109
        refine Rg_op rfl (op_move (v := (Value.int .i64 new_1.2)) rfl ?_)
        refine Rg_op rfl (op_neq rfl rfl ?_)
        refine Rg_op rfl (op_move (v := (Value.bool (decide (new_1.2 ≠ 0)))) rfl ?_)
        refine Rg_case (fun hg688 => ?_) (fun hg688 => ?_)
        ·
          replace hm := bif_t hm hg688
          refine Rg_opx rfl (asB_ne rfl rfl) rfl ?_
          refine Rg_opx rfl (asB_ne rfl rfl) rfl ?_
          refine Rg_op rfl (op_pick_t (v := (Value.bool true)) rfl rfl ?_)
          refine Rg_nil ?_
          exact hK52 _ _ ⟨true, _, rfl, ⟨(by repeat (first | with_reducible exact Out.refl _ _ | refine Out.upd ?_ rfl | refine Out.updL ?_ rfl | refine Out.mix' ?_ rfl | exact Out.refl _ _)), rfl, rfl, trivial⟩, ch687, hs47, hm⟩
        ·
          replace hm := bif_f hm hg688
          refine Rg_opg rfl rfl rfl (op_move (v := (Value.int .i64 stop_1.2)) rfl ?_)
          refine Rg_opg rfl rfl rfl (op_neq rfl rfl ?_)
          refine Rg_op rfl (op_pick_f (v := (Value.bool (decide (stop_1.2 ≠ 0)))) rfl rfl ?_)
          refine Rg_nil ?_
          exact hK52 _ _ ⟨(decide (stop_1.2 ≠ 0)), _, rfl, ⟨(by repeat (first | with_reducible exact Out.refl _ _ | refine Out.upd ?_ rfl | refine Out.updL ?_ rfl | refine Out.mix' ?_ rfl | exact Out.refl _ _)), rfl, rfl, trivial⟩, ch687, hs47, hm⟩

end Go.Fx


/- What the models of functions compute: loops over lists, checks, meetings. No program in sight. -/
set_option linter.unusedSimpArgs false
set_option linter.unusedVariables false
namespace Go.Fx
open Go Go.RowKit

section
variable {R α σ : Type}
@[simp] theorem jn_eq {κ : Type _} (k : κ) (f : κ → Option R) : jn k f = f k := rfl
theorem ck_eq {c : Prop} [Decidable c] {m : Option R} (h : c) : ck c m = m := if_pos h
@[simp] theorem ck_True {m : Option R} : ck True m = m := if_pos trivial
theorem wrapN {i : Nat} (h : i < 9223372036854775808) : IntKind.i64.wrap (i : Int) = (i : Int) := wrap_i64 (by omega) (by omega)
theorem wrapS {i : Nat} (h : i + 1 < 9223372036854775808) : IntKind.i64.wrap ((i : Int) + 1) = (i : Int) + 1 := wrap_i64 (by omega) (by omega)
theorem wrapA {i j : Nat} (h : i + j < 9223372036854775808) : IntKind.i64.wrap ((i : Int) + (j : Int)) = ((i + j : Nat) : Int) := (wrap_i64 (by omega) (by omega)).trans (by omega)
theorem wrapP {i : Nat} (h : i < 9223372036854775808) : IntKind.i64.wrap (((i + 1 : Nat) : Int) - 1) = (i : Int) := (wrap_i64 (by omega) (by omega)).trans (by omega)

/-- a loop that goes up an index over a list: L fuel index state -/
theorem up_list {L : Nat → Int → σ → Option R} (I : Nat → σ → Prop) (F : Nat → List α → σ → Option R) (l : List α) (hl : l.length < 9223372036854775807)
    (hE : ∀ n s, I l.length s → L (n + 1) (l.length : Nat) s = F l.length [] s)
    (hS : ∀ n (i : Nat) s x t, i < l.length → l[i]? = some x → IntKind.i64.wrap ((i : Int) + 1) = (i : Int) + 1 → I i s →
      (∀ s, I (i + 1) s → L n ((i : Int) + 1) s = F (i + 1) t s) → L (n + 1) (i : Int) s = F i (x :: t) s) :
    ∀ (fuel : Nat) s, l.length < fuel → I 0 s → L fuel 0 s = F 0 l s := by
  have main : ∀ (t : List α) (i fuel : Nat) s, l.drop i = t → i ≤ l.length → l.length - i < fuel → I i s → L fuel (i : Int) s = F i t s := by
    intro t
    induction t with
    | nil =>
      intro i fuel s hd hi hf hI
      have : i = l.length := by have := congrArg List.length hd; simp at this; omega
      subst this
      obtain ⟨n, rfl⟩ : ∃ n, fuel = n + 1 := ⟨fuel - 1, by omega⟩
      exact hE n s hI
    | cons x t ih =>
      intro i fuel s hd hi hf hI
      have hlt : i < l.length := by have := congrArg List.length hd; simp at this; omega
      obtain ⟨n, rfl⟩ : ∃ n, fuel = n + 1 := ⟨fuel - 1, by omega⟩
      have hx : l[i]? = some x := by rw [← List.head?_drop, hd]; rfl
      refine hS n i s x t hlt hx (wrapS (by omega)) hI fun s' hI' => (ih (i + 1) n s' ?_ (by omega) (by omega) hI')
      rw [← List.drop_drop, hd]; rfl
  intro fuel s hf hI
  exact main l 0 fuel s rfl (by omega) (by omega) hI

theorem getD_of {l : List α} {i : Nat} {x d : α} (h : l[i]? = some x) : l.getD i d = x := by simp [List.getD, h]

/-- a loop that goes up an index over a list, no state -/
theorem up_list0 {B : (Int → Option R) → Int → Option R} (F : List α → Option R) (l : List α) (hl : l.length < 9223372036854775807)
    (hE : ∀ sf, B sf (l.length : Nat) = F [])
    (hS : ∀ sf (i : Nat) x t, i < l.length → l[i]? = some x → IntKind.i64.wrap ((i : Int) + 1) = (i : Int) + 1 →
      sf ((i : Int) + 1) = F t → B sf (i : Int) = F (x :: t))
    {fuel : Nat} (hf : l.length < fuel) : loop1 B fuel 0 = F l := by
  refine up_list (L := fun n i (_ : Unit) => loop1 B n i) (fun _ _ => True) (fun _ t _ => F t) l hl ?_ ?_ fuel () hf trivial
  · intro n _ _; show loop1 B (n + 1) _ = _; rw [loop1_succ]; exact hE _
  · intro n i _ x t h1 h2 h3 _ ih; show loop1 B (n + 1) _ = _; rw [loop1_succ]; exact hS _ i x t h1 h2 h3 (ih () trivial)
/-- index first, then a state -/
theorem up_listA {B : (Int → σ → Option R) → Int → σ → Option R} (I : Nat → σ → Prop) (F : Nat → List α → σ → Option R) (l : List α) (hl : l.length < 9223372036854775807)
    (hE : ∀ sf s, I l.length s → B sf (l.length : Nat) s = F l.length [] s)
    (hS : ∀ sf (i : Nat) s x t, i < l.length → l[i]? = some x → IntKind.i64.wrap ((i : Int) + 1) = (i : Int) + 1 → I i s →
      (∀ s, I (i + 1) s → sf ((i : Int) + 1) s = F (i + 1) t s) → B sf (i : Int) s = F i (x :: t) s)
    {fuel : Nat} {s : σ} (hf : l.length < fuel) (hI : I 0 s) : loop2 B fuel 0 s = F 0 l s := by
  refine up_list (L := fun n i s => loop2 B n i s) I F l hl ?_ ?_ fuel s hf hI
  · intro n s h; show loop2 B (n + 1) _ _ = _; rw [loop2_succ]; exact hE _ _ h
  · intro n i s x t h1 h2 h3 h4 ih; show loop2 B (n + 1) _ _ = _; rw [loop2_succ]; exact hS _ i s x t h1 h2 h3 h4 ih
/-- a state first, then the index -/
theorem up_listB {B : (σ → Int → Option R) → σ → Int → Option R} (I : Nat → σ → Prop) (F : Nat → List α → σ → Option R) (l : List α) (hl : l.length < 9223372036854775807)
    (hE : ∀ sf s, I l.length s → B sf s (l.length : Nat) = F l.length [] s)
    (hS : ∀ sf (i : Nat) s x t, i < l.length → l[i]? = some x → IntKind.i64.wrap ((i : Int) + 1) = (i : Int) + 1 → I i s →
      (∀ s, I (i + 1) s → sf s ((i : Int) + 1) = F (i + 1) t s) → B sf s (i : Int) = F i (x :: t) s)
    {fuel : Nat} {s : σ} (hf : l.length < fuel) (hI : I 0 s) : loop2 B fuel s 0 = F 0 l s := by
  refine up_list (L := fun n i s => loop2 B n s i) I F l hl ?_ ?_ fuel s hf hI
  · intro n s h; show loop2 B (n + 1) _ _ = _; rw [loop2_succ]; exact hE _ _ h
  · intro n i s x t h1 h2 h3 h4 ih; show loop2 B (n + 1) _ _ = _; rw [loop2_succ]; exact hS _ i s x t h1 h2 h3 h4 ih

/-- the same, where the answer needs the index -/
theorem up_listI {B : (Int → Option R) → Int → Option R} (F : Nat → List α → Option R) (l : List α) (hl : l.length < 9223372036854775807)
    (hE : ∀ sf, B sf (l.length : Nat) = F l.length [])
    (hS : ∀ sf (i : Nat) x t, i < l.length → l[i]? = some x → IntKind.i64.wrap ((i : Int) + 1) = (i : Int) + 1 →
      sf ((i : Int) + 1) = F (i + 1) t → B sf (i : Int) = F i (x :: t))
    {fuel : Nat} (hf : l.length < fuel) : loop1 B fuel 0 = F 0 l := by
  refine up_list (L := fun n i (_ : Unit) => loop1 B n i) (fun _ _ => True) (fun i t _ => F i t) l hl ?_ ?_ fuel () hf trivial
  · intro n _ _; show loop1 B (n + 1) _ = _; rw [loop1_succ]; exact hE _
  · intro n i _ x t h1 h2 h3 _ ih; show loop1 B (n + 1) _ = _; rw [loop1_succ]; exact hS _ i x t h1 h2 h3 (ih () trivial)
end
end Go.Fx


set_option linter.unusedVariables false
set_option linter.unusedSimpArgs false
set_option maxRecDepth 100000
set_option maxHeartbeats 0
namespace Go.Fx
open Go Go.RowKit Go.Proofs
def m14_overflightref44_Few_B1 (d : XDisk) (sf39 : Int → Int → Option Bool) (n_2 : Int) (i_2 : Int) : Option Bool :=
  jn (fun (v_2 : Bool) =>
    bif v_2 then
      ck ((0 : Int) ≤ i_2 ∧ i_2 < (d.pending.length : Int)) <|
      sf39 (IntKind.wrap .i64 ((IntKind.wrap .i64 (n_2 + 1)) + (((d.pending.getD i_2.toNat default).data).length : Int))) (IntKind.wrap .i64 (i_2 + 1))
    else
      some (decide (n_2 ≤ 9000)))
  (fun k51 =>
    bif (decide (i_2 < (d.pending.length : Int))) then
      k51 (decide (n_2 ≤ 9000))
    else
      k51 false)

def m14_overflightref44_Few_B0 (d : XDisk) (sf9 : Int → Int → Option Bool) (n_1 : Int) (i_1 : Int) : Option Bool :=
  jn (fun (v_1 : Bool) =>
    bif v_1 then
      ck ((0 : Int) ≤ i_1 ∧ i_1 < (d.sectors.length : Int)) <|
      sf9 (IntKind.wrap .i64 ((IntKind.wrap .i64 (n_1 + 1)) + ((d.sectors.getD i_1.toNat default).length : Int))) (IntKind.wrap .i64 (i_1 + 1))
    else
      loop2 (m14_overflightref44_Few_B1 d) (1000000) n_1 0)
  (fun k21 =>
    bif (decide (i_1 < (d.sectors.length : Int))) then
      k21 (decide (n_1 ≤ 9000))
    else
      k21 false)

def m14_overflightref44_Few (d : XDisk) : Option Bool :=
  loop2 (m14_overflightref44_Few_B0 d) (1000000) 0 0

theorem c14_overflightref44_Few {w : World} {O : List Nat} {d : XDisk} {a_d_sectors : Option Addr} {c_d_sectors : Nat} {a_d_pending : Option Addr} {c_d_pending : Nat} (hO : ∀ k ∈ O, k < w.heap.size) (f_d_sectors : SlR (rSl rU8) w O a_d_sectors c_d_sectors d.sectors) (f_d_pending : SlR rXWrite w O a_d_pending c_d_pending d.pending) (r_d_left : InK .i64 d.left) {x : Bool} (hm : m14_overflightref44_Few d = some x) :
    Ok Try.prog 14 [(Value.agg [(Value.slice a_d_sectors d.sectors.length c_d_sectors), (Value.slice a_d_pending d.pending.length c_d_pending), (Value.int .i64 d.left), (Value.bool d.stopped)].toArray)] w O vB x := by
  unfold m14_overflightref44_Few at hm
  refine Fn_of_Wp (n := 49) (xs := [.tmp 2]) Try.func14 rfl Try.ntmps14 Try.results14 rfl ?_
  have hs := St.start hO
  refine Wp_seq ?_
  refine Wp_region ?_  -- 0 ref.go:132
  refine Rg_op rfl (op_box (cs := [(Value.slice a_d_sectors d.sectors.length c_d_sectors), (Value.slice a_d_pending d.pending.length c_d_pending), (Value.int .i64 d.left), (Value.bool d.stopped)]) hs rfl rfl ?_)
  intro b1 w2 _ p3 hs4
  replace f_d_sectors := f_d_sectors.step p3
  replace f_d_pending := f_d_pending.step p3
  clear p3
  refine Rg_op rfl (op_assign (v := (Value.bool false)) rfl ?_)
  refine Rg_nil ?_
  refine Wp_seq ?_
  refine Wp_region ?_  -- 1 ref.go:133
  refine Rg_op rfl (op_assign (v := (Value.int .i64 0)) rfl ?_)
  refine Rg_nil ?_
  refine Wp_seq ?_
  refine Wp_seq ?_
  refine Wp_region ?_  -- 2 ref.go:134
  refine Rg_op rfl (op_assign (v := (Value.int .i64 0)) rfl ?_)
  refine Rg_nil ?_
  refine Wp_block ?_
  refine Wp_reset [] [(1, (Value.pointer (some ⟨b1, 0, none⟩))), (3, (Value.int .i64 0)), (4, (Value.int .i64 0))] rfl ⟨rfl, rfl, rfl, trivial⟩ fun ξ8 => ?_
  refine Wp_loopM [3, 4, 6, 7, 8, 9, 10, 11, 12, 13, 14, 15, 16, 17, 18, 19, 20, 21, 22, 23, 24, 25] (fun m fr w' => ∃ (n_1 : Int) (i_1 : Int) (Ebs : Ents), Ebs = [(some b1, Obj.cells [(Value.slice a_d_sectors d.sectors.length c_d_sectors), (Value.slice a_d_pending d.pending.length c_d_pending), (Value.int .i64 d.left), (Value.bool d.stopped)].toArray 25)] ∧ fr [] [(3, (Value.int .i64 n_1)), (4, (Value.int .i64 i_1))] ∧ Step (ks [(some b1, Obj.cells [(Value.slice a_d_sectors d.sectors.length c_d_sectors), (Value.slice a_d_pending d.pending.length c_d_pending), (Value.int .i64 d.left), (Value.bool d.stopped)].toArray 25)] O) w2 (ks Ebs O) w' ∧ St ⟨w, [], []⟩ O w' Ebs ∧ InK .i64 n_1 ∧ InK .i64 i_1 ∧ loop2 (m14_overflightref44_Few_B0 d) m n_1 i_1 = some x) (1000000) ⟨0, 0, _, rfl, ⟨Out.refl _ _, rfl, rfl, rfl, trivial⟩, Step.refl _ _, hs4, (show InK .i64 0 from by decide), (show InK .i64 0 from by decide), hm⟩ ?_ ?_
  · rintro _ _ ⟨_, _, _, _, _, _, _, _, _, hm⟩; exact loop2_z hm
  · rintro m12 K11 hK11 ρ17 w13 ⟨n_1, i_1, Ebs, hEbs, hfr16, hst15, hs14, r_y6, r_y7, hm⟩
    obtain ⟨sf9, hsf10, hm⟩ := loop2_s hm; unfold m14_overflightref44_Few_B0 at hm
    subst hEbs; rw [hfr16.eq]; clear hfr16
    replace f_d_sectors := f_d_sectors.step hst15
    replace f_d_pending := f_d_pending.step hst15
    have ch18 := hst15
    refine Wp_seq ?_
    refine Wp_reset2 [3, 4, 6, 7, 8, 9, 10, 11, 12, 13, 14, 15, 16, 17, 18, 19, 20, 21, 22, 23, 24, 25] [] (updL ⟨ξ8, []⟩ [(1, (Value.pointer (some ⟨b1, 0, none⟩))), (3, (Value.int .i64 0)), (4, (Value.int .i64 0))]) [(3, (Value.int .i64 n_1)), (4, (Value.int .i64 i_1))] (by repeat (first | with_reducible exact Out.refl _ _ | refine Out.upd ?_ rfl | refine Out.updL ?_ rfl | refine Out.mix' ?_ rfl | exact Out.refl _ _)) rfl ⟨rfl, rfl, trivial⟩ fun ξ19 => ?_
    replace hm := jn_elim hm; obtain ⟨k21, hk22, hm⟩ := hm
    refine Wp_seqJ [6, 7, 8, 9, 10, 11, 12, 13, 14] (fun fr w' => ∃ (v_1 : Bool) (Ebs : Ents), Ebs = [(some b1, Obj.cells [(Value.slice a_d_sectors d.sectors.length c_d_sectors), (Value.slice a_d_pending d.pending.length c_d_pending), (Value.int .i64 d.left), (Value.bool d.stopped)].toArray 25)] ∧ fr [] [(14, (Value.bool v_1))] ∧ Step (ks [(some b1, Obj.cells [(Value.slice a_d_sectors d.sectors.length c_d_sectors), (Value.slice a_d_pending d.pending.length c_d_pending), (Value.int .i64 d.left), (Value.bool d.stopped)].toArray 25)] O) w13 (ks Ebs O) w' ∧ St ⟨w, [], []⟩ O w' Ebs ∧ k21 v_1 = some x) ?_ ?_
    ·
      rintro ρ28 w24 ⟨v_1, Ebs, hEbs, hfr27, hst26, hs25, hm⟩
      replace hm := jnE1 hk22 hm
      subst hEbs; rw [hfr27.eq]; clear hfr27
      replace f_d_sectors := f_d_sectors.step hst26
      replace f_d_pending := f_d_pending.step hst26
      replace ch18 := ch18.trans hst26
      clear hst26 hs14
      refine Wp_cond rfl (fun hc29 => ?_) (fun hc29 => ?_)
      ·
        replace hm := bif_t hm hc29
        refine Wp_skip ?_
        refine Wp_seq ?_
        refine Wp_block ?_
        refine Wp_region ?_  -- 5 ref.go:135
        refine Rg_op rfl (op_move (v := (Value.int .i64 n_1)) rfl ?_)
        refine Rg_op rfl (op_addw rfl rfl ?_)
        refine Rg_op rfl (op_fieldAddr ty25 rfl ty22 (by decide) rfl (rfl : _ = (⟨_, 0, none⟩ : Addr)) ?_)
        refine Rg_op rfl (op_load (cs := [(Value.slice a_d_sectors d.sectors.length c_d_sectors), (Value.slice a_d_pending d.pending.length c_d_pending), (Value.int .i64 d.left), (Value.bool d.stopped)]) (i := 0) ty22 hs25 rfl rfl rfl ?_)
        refine Rg_op rfl (op_move (v := (Value.int .i64 i_1)) rfl ?_)
        replace hm := ck_some hm; obtain ⟨hc30, hm⟩ := hm
        refine Rg_op rfl (op_indexAddr (q := (rSl rU8)) ty22 ty41 rfl rfl f_d_sectors rfl hc30.1 hc30.2 ?_)
        intro p31 f32
        refine Rg_op rfl (op_loadP ty41 rfl f32 rfl ?_)
        intro v33 h34
        obtain ⟨a_y35, c_y35, rfl, f_y35⟩ := un_sl h34
        refine Rg_op rfl (op_len Try.underlying41 rfl ?_)
        refine Rg_op rfl (op_addw rfl rfl ?_)
        refine Rg_op rfl (op_assign (v := (Value.int .i64 (IntKind.wrap .i64 ((IntKind.wrap .i64 (n_1 + 1)) + ((d.sectors.getD i_1.toNat default).length : Int))))) rfl ?_)
        refine Rg_nil ?_
        clear f32 f_y35
        refine Wp_region ?_  -- 4 ref.go:134
        refine Rg_op rfl (op_move (v := (Value.int .i64 i_1)) rfl ?_)
        refine Rg_op rfl (op_addw rfl rfl ?_)
        refine Rg_op rfl (op_assign (v := (Value.int .i64 (IntKind.wrap .i64 (i_1 + 1)))) rfl ?_)
        refine Rg_nil ?_
        exact hK11 _ _ ⟨(IntKind.wrap .i64 ((IntKind.wrap .i64 (n_1 + 1)) + ((d.sectors.getD i_1.toNat default).length : Int))), (IntKind.wrap .i64 (i_1 + 1)), _, rfl, ⟨(by repeat (first | with_reducible exact Out.refl _ _ | refine Out.upd ?_ rfl | refine Out.updL ?_ rfl | refine Out.mix' ?_ rfl | exact Out.refl _ _)), rfl, rfl, rfl, trivial⟩, ch18, hs25, (inK_wrap .i64 _), (inK_wrap .i64 _), jnE2 hsf10 hm⟩
      ·
        replace hm := bif_f hm hc29
        refine Wp_exit ?_
        refine Wp_seq ?_
        refine Wp_seq ?_
        refine Wp_region ?_  -- 6 ref.go:137
        refine Rg_op rfl (op_assign (v := (Value.int .i64 0)) rfl ?_)
        refine Rg_nil ?_
        refine Wp_block ?_
        refine Wp_reset [] [(1, (Value.pointer (some ⟨b1, 0, none⟩))), (3, (Value.int .i64 n_1)), (5, (Value.int .i64 0))] rfl ⟨rfl, rfl, rfl, trivial⟩ fun ξ38 => ?_
        refine Wp_loopM [3, 5, 26, 27, 28, 29, 30, 31, 32, 33, 34, 35, 36, 37, 38, 39, 40, 41, 42, 43, 44, 45, 46] (fun m fr w' => ∃ (n_2 : Int) (i_2 : Int) (Ebs : Ents), Ebs = [(some b1, Obj.cells [(Value.slice a_d_sectors d.sectors.length c_d_sectors), (Value.slice a_d_pending d.pending.length c_d_pending), (Value.int .i64 d.left), (Value.bool d.stopped)].toArray 25)] ∧ fr [] [(3, (Value.int .i64 n_2)), (5, (Value.int .i64 i_2))] ∧ Step (ks [(some b1, Obj.cells [(Value.slice a_d_sectors d.sectors.length c_d_sectors), (Value.slice a_d_pending d.pending.length c_d_pending), (Value.int .i64 d.left), (Value.bool d.stopped)].toArray 25)] O) w24 (ks Ebs O) w' ∧ St ⟨w, [], []⟩ O w' Ebs ∧ InK .i64 n_2 ∧ InK .i64 i_2 ∧ loop2 (m14_overflightref44_Few_B1 d) m n_2 i_2 = some x) (1000000) ⟨n_1, 0, _, rfl, ⟨Out.refl _ _, rfl, rfl, rfl, trivial⟩, Step.refl _ _, hs25, r_y6, (show InK .i64 0 from by decide), hm⟩ ?_ ?_
        · rintro _ _ ⟨_, _, _, _, _, _, _, _, _, hm⟩; exact loop2_z hm
        · rintro m42 K41 hK41 ρ47 w43 ⟨n_2, i_2, Ebs, hEbs, hfr46, hst45, hs44, r_y36, r_y37, hm⟩
          obtain ⟨sf39, hsf40, hm⟩ := loop2_s hm; unfold m14_overflightref44_Few_B1 at hm
          subst hEbs; rw [hfr46.eq]; clear hfr46
          replace f_d_sectors := f_d_sectors.step hst45
          replace f_d_pending := f_d_pending.step hst45
          replace ch18 := ch18.trans hst45
          have ch48 := hst45
          refine Wp_seq ?_
          refine Wp_reset2 [3, 5, 26, 27, 28, 29, 30, 31, 32, 33, 34, 35, 36, 37, 38, 39, 40, 41, 42, 43, 44, 45, 46] [] (updL ⟨ξ38, []⟩ [(1, (Value.pointer (some ⟨b1, 0, none⟩))), (3, (Value.int .i64 n_1)), (5, (Value.int .i64 0))]) [(3, (Value.int .i64 n_2)), (5, (Value.int .i64 i_2))] (by repeat (first | with_reducible exact Out.refl _ _ | refine Out.upd ?_ rfl | refine Out.updL ?_ rfl | refine Out.mix' ?_ rfl | exact Out.refl _ _)) rfl ⟨rfl, rfl, trivial⟩ fun ξ49 => ?_
          replace hm := jn_elim hm; obtain ⟨k51, hk52, hm⟩ := hm
          refine Wp_seqJ [26, 27, 28, 29, 30, 31, 32, 33, 34] (fun fr w' => ∃ (v_2 : Bool) (Ebs : Ents), Ebs = [(some b1, Obj.cells [(Value.slice a_d_sectors d.sectors.length c_d_sectors), (Value.slice a_d_pending d.pending.length c_d_pending), (Value.int .i64 d.left), (Value.bool d.stopped)].toArray 25)] ∧ fr [] [(34, (Value.bool v_2))] ∧ Step (ks [(some b1, Obj.cells [(Value.slice a_d_sectors d.sectors.length c_d_sectors), (Value.slice a_d_pending d.pending.length c_d_pending), (Value.int .i64 d.left), (Value.bool d.stopped)].toArray 25)] O) w43 (ks Ebs O) w' ∧ St ⟨w, [], []⟩ O w' Ebs ∧ k51 v_2 = some x) ?_ ?_
          ·
            rintro ρ58 w54 ⟨v_2, Ebs, hEbs, hfr57, hst56, hs55, hm⟩
            replace hm := jnE1 hk52 hm
            subst hEbs; rw [hfr57.eq]; clear hfr57
            replace f_d_sectors := f_d_sectors.step hst56
            replace f_d_pending := f_d_pending.step hst56
            replace ch18 := ch18.trans hst56
            replace ch48 := ch48.trans hst56
            clear hst56 hs44
            refine Wp_cond rfl (fun hc59 => ?_) (fun hc59 => ?_)
            ·
              replace hm := bif_t hm hc59
              refine Wp_skip ?_
              refine Wp_seq ?_
              refine Wp_block ?_
              refine Wp_region ?_  -- 9 ref.go:138
              refine Rg_op rfl (op_move (v := (Value.int .i64 n_2)) rfl ?_)
              refine Rg_op rfl (op_addw rfl rfl ?_)
              refine Rg_op rfl (op_fieldAddr ty25 rfl ty23 (by decide) rfl (rfl : _ = (⟨_, 1, none⟩ : Addr)) ?_)
              refine Rg_op rfl (op_load (cs := [(Value.slice a_d_sectors d.sectors.length c_d_sectors), (Value.slice a_d_pending d.pending.length c_d_pending), (Value.int .i64 d.left), (Value.bool d.stopped)]) (i := 0) ty23 hs55 rfl rfl rfl ?_)
              refine Rg_op rfl (op_move (v := (Value.int .i64 i_2)) rfl ?_)
              replace hm := ck_some hm; obtain ⟨hc60, hm⟩ := hm
              refine Rg_op rfl (op_indexAddr (q := rXWrite) ty23 ty73 rfl rfl f_d_pending rfl hc60.1 hc60.2 ?_)
              intro p61 f62
              refine Rg_op rfl (op_fieldAddr ty73 rfl ty41 (by decide) rfl rfl ?_)
              have f63 := f62.via.snd
              refine Rg_op rfl (op_loadP ty41 rfl f63 rfl ?_)
              intro v64 h65
              obtain ⟨a_y66, c_y66, rfl, f_y66⟩ := un_sl h65
              refine Rg_op rfl (op_len Try.underlying41 rfl ?_)
              refine Rg_op rfl (op_addw rfl rfl ?_)
              refine Rg_op rfl (op_assign (v := (Value.int .i64 (IntKind.wrap .i64 ((IntKind.wrap .i64 (n_2 + 1)) + (((d.pending.getD i_2.toNat default).data).length : Int))))) rfl ?_)
              refine Rg_nil ?_
              clear f62 f63 f_y66
              refine Wp_region ?_  -- 8 ref.go:137
              refine Rg_op rfl (op_move (v := (Value.int .i64 i_2)) rfl ?_)
              refine Rg_op rfl (op_addw rfl rfl ?_)
              refine Rg_op rfl (op_assign (v := (Value.int .i64 (IntKind.wrap .i64 (i_2 + 1)))) rfl ?_)
              refine Rg_nil ?_
              exact hK41 _ _ ⟨(IntKind.wrap .i64 ((IntKind.wrap .i64 (n_2 + 1)) + (((d.pending.getD i_2.toNat default).data).length : Int))), (IntKind.wrap .i64 (i_2 + 1)), _, rfl, ⟨(by repeat (first | with_reducible exact Out.refl _ _ | refine Out.upd ?_ rfl | refine Out.updL ?_ rfl | refine Out.mix' ?_ rfl | exact Out.refl _ _)), rfl, rfl, rfl, trivial⟩, ch48, hs55, (inK_wrap .i64 _), (inK_wrap .i64 _), jnE2 hsf40 hm⟩
            ·
              replace hm := bif_f hm hc59
              refine Wp_exit ?_
              refine Wp_seq ?_
              obtain ⟨hs67, p68⟩ := hs55.sub (bs' := []) (.cons _ List.Sublist.slnil)
              clear f_d_sectors f_d_pending
              replace ch18 := ch18.trans p68
              replace ch48 := ch48.trans p68
              clear p68 hs55
              refine Wp_region ?_  -- 10 ref.go:140
              refine Rg_op rfl (op_move (v := (Value.int .i64 n_2)) rfl ?_)
              refine Rg_op rfl (op_leq rfl rfl ?_)
              refine Rg_op rfl (op_assign (v := (Value.bool (decide (n_2 ≤ 9000)))) rfl ?_)
              refine Rg_nil ?_
              refine Wp_ret ?_
              have hz := step_all hs67
              refine ⟨_, (show Closes [] _ _ from rfl), [(Value.bool (decide (n_2 ≤ 9000)))], ⟨rfl, trivial⟩, hs67.ext, ?_⟩
              exact Vr.eq (a := vB) (x := (decide (n_2 ≤ 9000))) rfl (Option.some.inj hm)
          ·
            intro K53 hK53
            have ch69 := Step.refl (ks [(some b1, Obj.cells [(Value.slice a_d_sectors d.sectors.length c_d_sectors), (Value.slice a_d_pending d.pending.length c_d_pending), (Value.int .i64 d.left), (Value.bool d.stopped)].toArray 25)] O) w43
            refine Wp_region ?_  -- 7 ref.go:137
            refine Rg_op rfl (op_move (v := (Value.int .i64 i_2)) rfl ?_)
            refine Rg_op rfl (op_fieldAddr ty25 rfl ty23 (by decide) rfl (rfl : _ = (⟨_, 1, none⟩ : Addr)) ?_)
            refine Rg_op rfl (op_load (cs := [(Value.slice a_d_sectors d.sectors.length c_d_sectors), (Value.slice a_d_pending d.pending.length c_d_pending), (Value.int .i64 d.left), (Value.bool d.stopped)]) (i := 0) ty23 hs44 rfl rfl rfl ?_)
            refine Rg_op rfl (op_len Try.underlying23 rfl ?_)
            refine Rg_op rfl (op_lss rfl rfl ?_)
            refine Rg_op rfl (op_move (v := (Value.bool (decide (i_2 < (d.pending.length : Int))))) rfl ?_)
            refine Rg_case (fun hg70 => ?_) (fun hg70 => ?_)
            ·
              replace hm := bif_t hm hg70
              refine Rg_opg rfl rfl rfl (op_move (v := (Value.int .i64 n_2)) rfl ?_)
              refine Rg_opg rfl rfl rfl (op_leq rfl rfl ?_)
              refine Rg_op rfl (op_pick_t (v := (Value.bool (decide (n_2 ≤ 9000)))) rfl rfl ?_)
              refine Rg_nil ?_
              exact hK53 _ _ ⟨(decide (n_2 ≤ 9000)), _, rfl, ⟨(by repeat (first | with_reducible exact Out.refl _ _ | refine Out.upd ?_ rfl | refine Out.updL ?_ rfl | refine Out.mix' ?_ rfl | exact Out.refl _ _)), rfl, rfl, trivial⟩, ch69, hs44, hm⟩
            ·
              replace hm := bif_f hm hg70
              refine Rg_opx rfl (asB_ne rfl rfl) rfl ?_
              refine Rg_opx rfl (asB_ne rfl rfl) rfl ?_
              refine Rg_op rfl (op_pick_f (v := (Value.bool false)) rfl rfl ?_)
              refine Rg_nil ?_
              exact hK53 _ _ ⟨false, _, rfl, ⟨(by repeat (first | with_reducible exact Out.refl _ _ | refine Out.upd ?_ rfl | refine Out.updL ?_ rfl | refine Out.mix' ?_ rfl | exact Out.refl _ _)), rfl, rfl, trivial⟩, ch69, hs44, hm⟩
    ·
      intro K23 hK23
      have ch71 := Step.refl (ks [(some b1, Obj.cells [(Value.slice a_d_sectors d.sectors.length c_d_sectors), (Value.slice a_d_pending d.pending.length c_d_pending), (Value.int .i64 d.left), (Value.bool d.stopped)].toArray 25)] O) w13
      refine Wp_region ?_  -- 3 ref.go:134
      refine Rg_op rfl (op_move (v := (Value.int .i64 i_1)) rfl ?_)
      refine Rg_op rfl (op_fieldAddr ty25 rfl ty22 (by decide) rfl (rfl : _ = (⟨_, 0, none⟩ : Addr)) ?_)
      refine Rg_op rfl (op_load (cs := [(Value.slice a_d_sectors d.sectors.length c_d_sectors), (Value.slice a_d_pending d.pending.length c_d_pending), (Value.int .i64 d.left), (Value.bool d.stopped)]) (i := 0) ty22 hs14 rfl rfl rfl ?_)
      refine Rg_op rfl (op_len Try.underlying22 rfl ?_)
      refine Rg_op rfl (op_lss rfl rfl ?_)
      refine Rg_op rfl (op_move (v := (Value.bool (decide (i_1 < (d.sectors.length : Int))))) rfl ?_)
      refine Rg_case (fun hg72 => ?_) (fun hg72 => ?_)
      ·
        replace hm := bif_t hm hg72
        refine Rg_opg rfl rfl rfl (op_move (v := (Value.int .i64 n_1)) rfl ?_)
        refine Rg_opg rfl rfl rfl (op_leq rfl rfl ?_)
        refine Rg_op rfl (op_pick_t (v := (Value.bool (decide (n_1 ≤ 9000)))) rfl rfl ?_)
        refine Rg_nil ?_
        exact hK23 _ _ ⟨(decide (n_1 ≤ 9000)), _, rfl, ⟨(by repeat (first | with_reducible exact Out.refl _ _ | refine Out.upd ?_ rfl | refine Out.updL ?_ rfl | refine Out.mix' ?_ rfl | exact Out.refl _ _)), rfl, rfl, trivial⟩, ch71, hs14, hm⟩
      ·
        replace hm := bif_f hm hg72
        refine Rg_opx rfl (asB_ne rfl rfl) rfl ?_
        refine Rg_opx rfl (asB_ne rfl rfl) rfl ?_
        refine Rg_op rfl (op_pick_f (v := (Value.bool false)) rfl rfl ?_)
        refine Rg_nil ?_
        exact hK23 _ _ ⟨false, _, rfl, ⟨(by repeat (first | with_reducible exact Out.refl _ _ | refine Out.upd ?_ rfl | refine Out.updL ?_ rfl | refine Out.mix' ?_ rfl | exact Out.refl _ _)), rfl, rfl, trivial⟩, ch71, hs14, hm⟩

end Go.Fx

