/- For every disk, numbers and bytes of a world of the row, the statement DiskStopped of chapter 44 holds (no further conditions). -/
import Derived.Test.YtegomkljijgjjaaStop4
import Derived.Test.YtegomkljijgjjaaRows
import Derived.WalkKit
import Derived.ShutString
set_option linter.unusedVariables false
set_option linter.unusedSimpArgs false
set_option maxRecDepth 100000
set_option maxHeartbeats 0
namespace Go.Fx
open Go Go.RowKit Go.Proofs
def m7_overflightlaw44_DiskStopped_B0 (d : XDisk) (at_ : Int) (left : Int) (b : List UInt8) (restart_1 : XDisk) (sf79 : Int → Option Bool) (i_1 : Int) : Option Bool :=
  bif (decide (i_1 < (d.sectors.length : Int))) then
    ck ((0 : Int) ≤ i_1 ∧ i_1 < (restart_1.sectors.length : Int)) <|
    ck ((0 : Int) ≤ i_1 ∧ i_1 < (d.sectors.length : Int)) <|
    bif (decide ((restart_1.sectors.getD i_1.toNat default) ≠ (d.sectors.getD i_1.toNat default))) then
      some false
    else
      sf79 (IntKind.wrap .i64 (i_1 + 1))
  else
    (m27_disk_Read (⟨d.sectors, d.pending, d.left, true⟩ : XDisk) at_).bind fun read_1 =>
    (m23_disk_Write (⟨d.sectors, d.pending, d.left, true⟩ : XDisk) at_ b).bind fun write_1 =>
    (m25_disk_Sync (⟨d.sectors, d.pending, d.left, true⟩ : XDisk)).bind fun sync_1 =>
    (m22_disk_Stop (⟨d.sectors, d.pending, d.left, true⟩ : XDisk) left).bind fun stop_1 =>
    jn (fun (v_3 : Bool) =>
      some v_3)
    (fun k264 =>
      bif (decide (read_1.2 = 440)) then
        bif (decide (write_1.2 = 440)) then
          bif (decide (sync_1.2 = 440)) then
            k264 (decide (stop_1.2 = 440))
          else
            k264 false
        else
          k264 false
      else
        k264 false)

def m7_overflightlaw44_DiskStopped (d : XDisk) (at_ : Int) (left : Int) (b : List UInt8) : Option Bool :=
  (m13_overflightlaw44_sane).bind fun sane_1 =>
  bif (!sane_1) then
    some false
  else
    jn (fun (v_1 : Bool) =>
      bif v_1 then
        some true
      else
        (m20_disk_Restart d).bind fun restart_1 =>
        (m20_disk_Restart restart_1).bind fun restart_2 =>
        jn (fun (v_2 : Bool) =>
          bif v_2 then
            some false
          else
            loop1 (m7_overflightlaw44_DiskStopped_B0 d at_ left b restart_1) (((d.sectors.length : Int) - 0).toNat + 1) 0)
        (fun k64 =>
          bif restart_1.stopped then
            k64 true
          else
            bif (decide (restart_1.left ≠ (-1))) then
              k64 true
            else
              bif (decide ((restart_1.pending.length : Int) ≠ 0)) then
                k64 true
              else
                (m17_overflightref44_Same restart_1 restart_2).bind fun same_1 =>
                bif (!same_1) then
                  k64 true
                else
                  k64 (decide ((restart_1.sectors.length : Int) ≠ (d.sectors.length : Int)))))
    (fun k19 =>
      (m14_overflightref44_Few d).bind fun few_1 =>
      bif (!few_1) then
        k19 true
      else
        k19 (decide (1000 < (b.length : Int))))

theorem c7_overflightlaw44_DiskStopped {w : World} {O : List Nat} {d : XDisk} {at_ : Int} {left : Int} {b : List UInt8} {a_d_sectors : Option Addr} {c_d_sectors : Nat} {a_d_pending : Option Addr} {c_d_pending : Nat} {a_b : Option Addr} {c_b : Nat} (hO : ∀ k ∈ O, k < w.heap.size) (f_d_sectors : SlR (rSl rU8) w O a_d_sectors c_d_sectors d.sectors) (f_d_pending : SlR rXWrite w O a_d_pending c_d_pending d.pending) (r_d_left : InK .i64 d.left) (r_at_ : InK .i64 at_) (r_left : InK .i64 left) (f_b : SlR rU8 w O a_b c_b b) {x : Bool} (hm : m7_overflightlaw44_DiskStopped d at_ left b = some x) :
    Ok Try.prog 7 [(Value.agg [(Value.slice a_d_sectors d.sectors.length c_d_sectors), (Value.slice a_d_pending d.pending.length c_d_pending), (Value.int .i64 d.left), (Value.bool d.stopped)].toArray), (Value.int .i64 at_), (Value.int .i64 left), (Value.slice a_b b.length c_b)] w O vB x := by
  unfold m7_overflightlaw44_DiskStopped at hm
  refine Fn_of_Wp (n := 121) (xs := [.tmp 8]) Try.func7 rfl Try.ntmps7 Try.results7 rfl ?_
  have hs := St.start hO
  refine Wp_seq ?_
  refine Wp_region ?_  -- 0 law.go:217
  refine Rg_op rfl (op_box (cs := [(Value.slice a_d_sectors d.sectors.length c_d_sectors), (Value.slice a_d_pending d.pending.length c_d_pending), (Value.int .i64 d.left), (Value.bool d.stopped)]) hs rfl rfl ?_)
  intro b1 w2 _ p3 hs4
  replace f_d_sectors := f_d_sectors.step p3
  replace f_d_pending := f_d_pending.step p3
  replace f_b := f_b.step p3
  clear p3
  refine Rg_op rfl (op_assign (v := (Value.bool false)) rfl ?_)
  refine Rg_nil ?_
  refine Wp_seq ?_
  refine Wp_seq ?_
  refine Wp_region ?_  -- 1 law.go:218
  replace hm := bd hm; obtain ⟨sane_1, hv6, hm⟩ := hm
  refine Rg_op rfl (op_call Try.call13 (c13_overflightlaw44_sane  hs4.ltw  hv6) rfl ?_)
  rintro v7 w8 ⟨hx9, h10⟩
  have hs11 := hs4.call hx9
  have p12 := Step.ext (O := ks [(some b1, Obj.cells [(Value.slice a_d_sectors d.sectors.length c_d_sectors), (Value.slice a_d_pending d.pending.length c_d_pending), (Value.int .i64 d.left), (Value.bool d.stopped)].toArray 25)] O) hx9
  clear hx9
  replace f_d_sectors := f_d_sectors.step p12
  replace f_d_pending := f_d_pending.step p12
  replace f_b := f_b.step p12
  clear p12 hs4
  obtain rfl := h10
  refine Rg_op rfl (op_not rfl ?_)
  refine Rg_nil ?_
  refine Wp_cond rfl (fun hc14 => ?_) (fun hc14 => ?_)
  ·
    replace hm := bif_t hm hc14
    refine Wp_seq ?_
    obtain ⟨hs15, p16⟩ := hs11.sub (bs' := []) (.cons _ List.Sublist.slnil)
    clear f_d_sectors f_d_pending f_b
    clear p16 hs11
    refine Wp_region ?_  -- 2 law.go:219
    refine Rg_op rfl (op_assign (v := (Value.bool false)) rfl ?_)
    refine Rg_nil ?_
    refine Wp_ret ?_
    have hz := step_all hs15
    refine ⟨_, (show Closes [] _ _ from rfl), [(Value.bool false)], ⟨rfl, trivial⟩, hs15.ext, ?_⟩
    exact Vr.eq (a := vB) (x := false) rfl (Option.some.inj hm)
  ·
    replace hm := bif_f hm hc14
    refine Wp_skip ?_
    refine Wp_seq ?_
    refine Wp_reset [] [(1, (Value.int .i64 at_)), (2, (Value.int .i64 left)), (3, (Value.slice a_b b.length c_b)), (4, (Value.pointer (some ⟨b1, 0, none⟩)))] rfl ⟨rfl, rfl, rfl, rfl, trivial⟩ fun ξ17 => ?_
    replace hm := jn_elim hm; obtain ⟨k19, hk20, hm⟩ := hm
    refine Wp_seqJ [22, 23, 24, 25, 26, 27, 28, 29] (fun fr w' => ∃ (v_1 : Bool) (Ebs : Ents), Ebs = [(some b1, Obj.cells [(Value.slice a_d_sectors d.sectors.length c_d_sectors), (Value.slice a_d_pending d.pending.length c_d_pending), (Value.int .i64 d.left), (Value.bool d.stopped)].toArray 25)] ∧ fr [] [(29, (Value.bool v_1))] ∧ Step (ks [(some b1, Obj.cells [(Value.slice a_d_sectors d.sectors.length c_d_sectors), (Value.slice a_d_pending d.pending.length c_d_pending), (Value.int .i64 d.left), (Value.bool d.stopped)].toArray 25)] O) w8 (ks Ebs O) w' ∧ St ⟨w, [], []⟩ O w' Ebs ∧ k19 v_1 = some x) ?_ ?_
    ·
      rintro ρ26 w22 ⟨v_1, Ebs, hEbs, hfr25, hst24, hs23, hm⟩
      replace hm := jnE1 hk20 hm
      subst hEbs; rw [hfr25.eq]; clear hfr25
      replace f_d_sectors := f_d_sectors.step hst24
      replace f_d_pending := f_d_pending.step hst24
      replace f_b := f_b.step hst24
      clear hst24 hs11
      refine Wp_cond rfl (fun hc27 => ?_) (fun hc27 => ?_)
      ·
        replace hm := bif_t hm hc27
        refine Wp_seq ?_
        obtain ⟨hs28, p29⟩ := hs23.sub (bs' := []) (.cons _ List.Sublist.slnil)
        clear f_d_sectors f_d_pending f_b
        clear p29 hs23
        refine Wp_region ?_  -- 4 law.go:222
        refine Rg_op rfl (op_assign (v := (Value.bool true)) rfl ?_)
        refine Rg_nil ?_
        refine Wp_ret ?_
        have hz := step_all hs28
        refine ⟨_, (show Closes [] _ _ from rfl), [(Value.bool true)], ⟨rfl, trivial⟩, hs28.ext, ?_⟩
        exact Vr.eq (a := vB) (x := true) rfl (Option.some.inj hm)
      ·
        replace hm := bif_f hm hc27
        refine Wp_skip ?_
        refine Wp_seq ?_
        refine Wp_region ?_  -- 5 law.go:224
        refine Rg_op rfl (op_loadA (cs := [(Value.slice a_d_sectors d.sectors.length c_d_sectors), (Value.slice a_d_pending d.pending.length c_d_pending), (Value.int .i64 d.left), (Value.bool d.stopped)]) (vs := [(Value.slice a_d_sectors d.sectors.length c_d_sectors), (Value.slice a_d_pending d.pending.length c_d_pending), (Value.int .i64 d.left), (Value.bool d.stopped)]) (i := 0) ty25 hs23 rfl rfl rfl rfl ?_)
        replace hm := bd hm; obtain ⟨restart_1, hv30, hm⟩ := hm
        refine Rg_op rfl (op_call Try.call20 (c20_disk_Restart (d := d) hs23.ltw f_d_sectors f_d_pending r_d_left hv30) rfl ?_)
        rintro v31 w32 ⟨hx33, h34⟩
        have hs35 := hs23.call hx33
        have p36 := Step.ext (O := ks [(some b1, Obj.cells [(Value.slice a_d_sectors d.sectors.length c_d_sectors), (Value.slice a_d_pending d.pending.length c_d_pending), (Value.int .i64 d.left), (Value.bool d.stopped)].toArray 25)] O) hx33
        clear hx33
        replace f_d_sectors := f_d_sectors.step p36
        replace f_d_pending := f_d_pending.step p36
        replace f_b := f_b.step p36
        clear p36 hs23
        obtain ⟨_, rfl, ⟨_, _, rfl, ⟨a_y37_sectors, c_y37_sectors, rfl, f_y37_sectors⟩, ⟨_, _, rfl, ⟨a_y37_pending, c_y37_pending, rfl, f_y37_pending⟩, ⟨_, _, rfl, ⟨rfl, r_y37_left⟩, rfl⟩⟩⟩⟩ := h34
        refine Rg_op rfl (op_alloc ty25 hs35 ?_)
        intro b38 w39 _ p40 hs41
        replace f_d_sectors := f_d_sectors.step p40
        replace f_d_pending := f_d_pending.step p40
        replace f_b := f_b.step p40
        replace f_y37_sectors := f_y37_sectors.step p40
        replace f_y37_pending := f_y37_pending.step p40
        clear p40 hs35
        refine Rg_op_ (op_store (cs := [(Value.slice none 0 0), (Value.slice none 0 0), (Value.int .i64 0), (Value.bool false)]) (vs := [(Value.slice a_y37_sectors restart_1.sectors.length c_y37_sectors), (Value.slice a_y37_pending restart_1.pending.length c_y37_pending), (Value.int .i64 restart_1.left), (Value.bool restart_1.stopped)]) (cs' := [(Value.slice a_y37_sectors restart_1.sectors.length c_y37_sectors), (Value.slice a_y37_pending restart_1.pending.length c_y37_pending), (Value.int .i64 restart_1.left), (Value.bool restart_1.stopped)]) (bs' := [(some b38, Obj.cells [(Value.slice a_y37_sectors restart_1.sectors.length c_y37_sectors), (Value.slice a_y37_pending restart_1.pending.length c_y37_pending), (Value.int .i64 restart_1.left), (Value.bool restart_1.stopped)].toArray 25), (some b1, Obj.cells [(Value.slice a_d_sectors d.sectors.length c_d_sectors), (Value.slice a_d_pending d.pending.length c_d_pending), (Value.int .i64 d.left), (Value.bool d.stopped)].toArray 25)]) (i := 0) ty25 hs41 rfl rfl rfl rfl rfl (le_lit rfl) rfl rfl rfl ?_)
        intro w43 p44 hs45
        replace f_d_sectors := f_d_sectors.step p44
        replace f_d_pending := f_d_pending.step p44
        replace f_b := f_b.step p44
        replace f_y37_sectors := f_y37_sectors.step p44
        replace f_y37_pending := f_y37_pending.step p44
        clear p44 hs41
        refine Rg_nil ?_
        refine Wp_seq ?_
        refine Wp_region ?_  -- 6 law.go:225
        refine Rg_op rfl (op_loadA (cs := [(Value.slice a_y37_sectors restart_1.sectors.length c_y37_sectors), (Value.slice a_y37_pending restart_1.pending.length c_y37_pending), (Value.int .i64 restart_1.left), (Value.bool restart_1.stopped)]) (vs := [(Value.slice a_y37_sectors restart_1.sectors.length c_y37_sectors), (Value.slice a_y37_pending restart_1.pending.length c_y37_pending), (Value.int .i64 restart_1.left), (Value.bool restart_1.stopped)]) (i := 0) ty25 hs45 rfl rfl rfl rfl ?_)
        replace hm := bd hm; obtain ⟨restart_2, hv46, hm⟩ := hm
        refine Rg_op rfl (op_call Try.call20 (c20_disk_Restart (d := restart_1) hs45.ltw f_y37_sectors f_y37_pending r_y37_left hv46) rfl ?_)
        rintro v47 w48 ⟨hx49, h50⟩
        have hs51 := hs45.call hx49
        have p52 := Step.ext (O := ks [(some b38, Obj.cells [(Value.slice a_y37_sectors restart_1.sectors.length c_y37_sectors), (Value.slice a_y37_pending restart_1.pending.length c_y37_pending), (Value.int .i64 restart_1.left), (Value.bool restart_1.stopped)].toArray 25), (some b1, Obj.cells [(Value.slice a_d_sectors d.sectors.length c_d_sectors), (Value.slice a_d_pending d.pending.length c_d_pending), (Value.int .i64 d.left), (Value.bool d.stopped)].toArray 25)] O) hx49
        clear hx49
        replace f_d_sectors := f_d_sectors.step p52
        replace f_d_pending := f_d_pending.step p52
        replace f_b := f_b.step p52
        replace f_y37_sectors := f_y37_sectors.step p52
        replace f_y37_pending := f_y37_pending.step p52
        clear p52 hs45
        obtain ⟨_, rfl, ⟨_, _, rfl, ⟨a_y53_sectors, c_y53_sectors, rfl, f_y53_sectors⟩, ⟨_, _, rfl, ⟨a_y53_pending, c_y53_pending, rfl, f_y53_pending⟩, ⟨_, _, rfl, ⟨rfl, r_y53_left⟩, rfl⟩⟩⟩⟩ := h50
        refine Rg_op rfl (op_alloc ty25 hs51 ?_)
        intro b54 w55 _ p56 hs57
        replace f_d_sectors := f_d_sectors.step p56
        replace f_d_pending := f_d_pending.step p56
        replace f_b := f_b.step p56
        replace f_y37_sectors := f_y37_sectors.step p56
        replace f_y37_pending := f_y37_pending.step p56
        replace f_y53_sectors := f_y53_sectors.step p56
        replace f_y53_pending := f_y53_pending.step p56
        clear p56 hs51
        refine Rg_op_ (op_store (cs := [(Value.slice none 0 0), (Value.slice none 0 0), (Value.int .i64 0), (Value.bool false)]) (vs := [(Value.slice a_y53_sectors restart_2.sectors.length c_y53_sectors), (Value.slice a_y53_pending restart_2.pending.length c_y53_pending), (Value.int .i64 restart_2.left), (Value.bool restart_2.stopped)]) (cs' := [(Value.slice a_y53_sectors restart_2.sectors.length c_y53_sectors), (Value.slice a_y53_pending restart_2.pending.length c_y53_pending), (Value.int .i64 restart_2.left), (Value.bool restart_2.stopped)]) (bs' := [(some b54, Obj.cells [(Value.slice a_y53_sectors restart_2.sectors.length c_y53_sectors), (Value.slice a_y53_pending restart_2.pending.length c_y53_pending), (Value.int .i64 restart_2.left), (Value.bool restart_2.stopped)].toArray 25), (some b38, Obj.cells [(Value.slice a_y37_sectors restart_1.sectors.length c_y37_sectors), (Value.slice a_y37_pending restart_1.pending.length c_y37_pending), (Value.int .i64 restart_1.left), (Value.bool restart_1.stopped)].toArray 25), (some b1, Obj.cells [(Value.slice a_d_sectors d.sectors.length c_d_sectors), (Value.slice a_d_pending d.pending.length c_d_pending), (Value.int .i64 d.left), (Value.bool d.stopped)].toArray 25)]) (i := 0) ty25 hs57 rfl rfl rfl rfl rfl (le_lit rfl) rfl rfl rfl ?_)
        intro w59 p60 hs61
        replace f_d_sectors := f_d_sectors.step p60
        replace f_d_pending := f_d_pending.step p60
        replace f_b := f_b.step p60
        replace f_y37_sectors := f_y37_sectors.step p60
        replace f_y37_pending := f_y37_pending.step p60
        replace f_y53_sectors := f_y53_sectors.step p60
        replace f_y53_pending := f_y53_pending.step p60
        clear p60 hs57
        refine Rg_nil ?_
        refine Wp_seq ?_
        refine Wp_reset [] [(1, (Value.int .i64 at_)), (2, (Value.int .i64 left)), (3, (Value.slice a_b b.length c_b)), (4, (Value.pointer (some ⟨b1, 0, none⟩))), (9, (Value.pointer (some ⟨b38, 0, none⟩))), (10, (Value.pointer (some ⟨b54, 0, none⟩)))] rfl ⟨rfl, rfl, rfl, rfl, rfl, rfl, trivial⟩ fun ξ62 => ?_
        replace hm := jn_elim hm; obtain ⟨k64, hk65, hm⟩ := hm
        refine Wp_seqJ [34, 35, 36, 37, 38, 39, 40, 41, 42, 43, 44, 45, 46, 47, 48, 49, 50, 51, 52, 53, 54, 55, 56, 57, 58, 59, 60, 61] (fun fr w' => ∃ (v_2 : Bool) (Ebs : Ents), Ebs = [(some b54, Obj.cells [(Value.slice a_y53_sectors restart_2.sectors.length c_y53_sectors), (Value.slice a_y53_pending restart_2.pending.length c_y53_pending), (Value.int .i64 restart_2.left), (Value.bool restart_2.stopped)].toArray 25), (some b38, Obj.cells [(Value.slice a_y37_sectors restart_1.sectors.length c_y37_sectors), (Value.slice a_y37_pending restart_1.pending.length c_y37_pending), (Value.int .i64 restart_1.left), (Value.bool restart_1.stopped)].toArray 25), (some b1, Obj.cells [(Value.slice a_d_sectors d.sectors.length c_d_sectors), (Value.slice a_d_pending d.pending.length c_d_pending), (Value.int .i64 d.left), (Value.bool d.stopped)].toArray 25)] ∧ fr [] [(61, (Value.bool v_2))] ∧ Step (ks [(some b54, Obj.cells [(Value.slice a_y53_sectors restart_2.sectors.length c_y53_sectors), (Value.slice a_y53_pending restart_2.pending.length c_y53_pending), (Value.int .i64 restart_2.left), (Value.bool restart_2.stopped)].toArray 25), (some b38, Obj.cells [(Value.slice a_y37_sectors restart_1.sectors.length c_y37_sectors), (Value.slice a_y37_pending restart_1.pending.length c_y37_pending), (Value.int .i64 restart_1.left), (Value.bool restart_1.stopped)].toArray 25), (some b1, Obj.cells [(Value.slice a_d_sectors d.sectors.length c_d_sectors), (Value.slice a_d_pending d.pending.length c_d_pending), (Value.int .i64 d.left), (Value.bool d.stopped)].toArray 25)] O) w59 (ks Ebs O) w' ∧ St ⟨w, [], []⟩ O w' Ebs ∧ k64 v_2 = some x) ?_ ?_
        ·
          rintro ρ71 w67 ⟨v_2, Ebs, hEbs, hfr70, hst69, hs68, hm⟩
          replace hm := jnE1 hk65 hm
          subst hEbs; rw [hfr70.eq]; clear hfr70
          replace f_d_sectors := f_d_sectors.step hst69
          replace f_d_pending := f_d_pending.step hst69
          replace f_b := f_b.step hst69
          replace f_y37_sectors := f_y37_sectors.step hst69
          replace f_y37_pending := f_y37_pending.step hst69
          replace f_y53_sectors := f_y53_sectors.step hst69
          replace f_y53_pending := f_y53_pending.step hst69
          clear hst69 hs61
          refine Wp_cond rfl (fun hc72 => ?_) (fun hc72 => ?_)
          ·
            replace hm := bif_t hm hc72
            refine Wp_seq ?_
            obtain ⟨hs73, p74⟩ := hs68.sub (bs' := []) (.cons _ (.cons _ (.cons _ List.Sublist.slnil)))
            clear f_d_sectors f_d_pending f_b f_y37_sectors f_y37_pending f_y53_sectors f_y53_pending
            clear p74 hs68
            refine Wp_region ?_  -- 8 law.go:227
            refine Rg_op rfl (op_assign (v := (Value.bool false)) rfl ?_)
            refine Rg_nil ?_
            refine Wp_ret ?_
            have hz := step_all hs73
            refine ⟨_, (show Closes [] _ _ from rfl), [(Value.bool false)], ⟨rfl, trivial⟩, hs73.ext, ?_⟩
            exact Vr.eq (a := vB) (x := false) rfl (Option.some.inj hm)
          ·
            replace hm := bif_f hm hc72
            refine Wp_skip ?_
            refine Wp_seq ?_
            refine Wp_seq ?_
            obtain ⟨hs75, p76⟩ := hs68.sub (bs' := [(some b38, Obj.cells [(Value.slice a_y37_sectors restart_1.sectors.length c_y37_sectors), (Value.slice a_y37_pending restart_1.pending.length c_y37_pending), (Value.int .i64 restart_1.left), (Value.bool restart_1.stopped)].toArray 25), (some b1, Obj.cells [(Value.slice a_d_sectors d.sectors.length c_d_sectors), (Value.slice a_d_pending d.pending.length c_d_pending), (Value.int .i64 d.left), (Value.bool d.stopped)].toArray 25)]) (.cons _ (.cons_cons _ (.cons_cons _ List.Sublist.slnil)))
            clear f_y53_sectors f_y53_pending
            replace f_d_sectors := f_d_sectors.step p76
            replace f_d_pending := f_d_pending.step p76
            replace f_b := f_b.step p76
            replace f_y37_sectors := f_y37_sectors.step p76
            replace f_y37_pending := f_y37_pending.step p76
            clear p76 hs68
            refine Wp_region ?_  -- 9 law.go:229
            refine Rg_op rfl (op_assign (v := (Value.int .i64 0)) rfl ?_)
            refine Rg_nil ?_
            refine Wp_block ?_
            refine Wp_reset [] [(1, (Value.int .i64 at_)), (2, (Value.int .i64 left)), (3, (Value.slice a_b b.length c_b)), (4, (Value.pointer (some ⟨b1, 0, none⟩))), (9, (Value.pointer (some ⟨b38, 0, none⟩))), (11, (Value.int .i64 0))] rfl ⟨rfl, rfl, rfl, rfl, rfl, rfl, trivial⟩ fun ξ78 => ?_
            refine Wp_loopM [8, 11, 62, 63, 64, 65, 66, 67, 68, 69, 70, 71, 72, 73, 74, 75, 76, 77, 78, 79, 80, 81] (fun m fr w' => ∃ (i_1 : Int) (Ebs : Ents), Ebs = [(some b38, Obj.cells [(Value.slice a_y37_sectors restart_1.sectors.length c_y37_sectors), (Value.slice a_y37_pending restart_1.pending.length c_y37_pending), (Value.int .i64 restart_1.left), (Value.bool restart_1.stopped)].toArray 25), (some b1, Obj.cells [(Value.slice a_d_sectors d.sectors.length c_d_sectors), (Value.slice a_d_pending d.pending.length c_d_pending), (Value.int .i64 d.left), (Value.bool d.stopped)].toArray 25)] ∧ fr [] [(11, (Value.int .i64 i_1))] ∧ Step (ks [(some b38, Obj.cells [(Value.slice a_y37_sectors restart_1.sectors.length c_y37_sectors), (Value.slice a_y37_pending restart_1.pending.length c_y37_pending), (Value.int .i64 restart_1.left), (Value.bool restart_1.stopped)].toArray 25), (some b1, Obj.cells [(Value.slice a_d_sectors d.sectors.length c_d_sectors), (Value.slice a_d_pending d.pending.length c_d_pending), (Value.int .i64 d.left), (Value.bool d.stopped)].toArray 25)] O) w67 (ks Ebs O) w' ∧ St ⟨w, [], []⟩ O w' Ebs ∧ InK .i64 i_1 ∧ loop1 (m7_overflightlaw44_DiskStopped_B0 d at_ left b restart_1) m i_1 = some x) (((d.sectors.length : Int) - 0).toNat + 1) ⟨0, _, rfl, ⟨Out.refl _ _, rfl, rfl, trivial⟩, Step.refl _ _, hs75, (show InK .i64 0 from by decide), hm⟩ ?_ ?_
            · rintro _ _ ⟨_, _, _, _, _, _, _, hm⟩; exact loop1_z hm
            · rintro m82 K81 hK81 ρ87 w83 ⟨i_1, Ebs, hEbs, hfr86, hst85, hs84, r_y77, hm⟩
              obtain ⟨sf79, hsf80, hm⟩ := loop1_s hm; unfold m7_overflightlaw44_DiskStopped_B0 at hm
              subst hEbs; rw [hfr86.eq]; clear hfr86
              replace f_d_sectors := f_d_sectors.step hst85
              replace f_d_pending := f_d_pending.step hst85
              replace f_b := f_b.step hst85
              replace f_y37_sectors := f_y37_sectors.step hst85
              replace f_y37_pending := f_y37_pending.step hst85
              have ch88 := hst85
              refine Wp_seq ?_
              refine Wp_seq ?_
              refine Wp_region ?_  -- 10 law.go:229
              refine Rg_op rfl (op_move (v := (Value.int .i64 i_1)) rfl ?_)
              refine Rg_op rfl (op_fieldAddr ty25 rfl ty22 (by decide) rfl (rfl : _ = (⟨_, 0, none⟩ : Addr)) ?_)
              refine Rg_op rfl (op_load (cs := [(Value.slice a_d_sectors d.sectors.length c_d_sectors), (Value.slice a_d_pending d.pending.length c_d_pending), (Value.int .i64 d.left), (Value.bool d.stopped)]) (i := 1) ty22 hs84 rfl rfl rfl ?_)
              refine Rg_op rfl (op_len Try.underlying22 rfl ?_)
              refine Rg_op rfl (op_lss rfl rfl ?_)
              refine Rg_nil ?_
              refine Wp_cond rfl (fun hc89 => ?_) (fun hc89 => ?_)
              ·
                replace hm := bif_t hm hc89
                refine Wp_skip ?_
                refine Wp_seq ?_
                refine Wp_block ?_
                refine Wp_seq ?_
                refine Wp_drawR (g0 := []) (m := 13) (fl := []) (TS_inv hs84) (.inl rfl) rfl (by decide +kernel) ?_  -- 12
                refine Dw_eq (Value.pointer (some ⟨b38, 0, none⟩)) (fun ρ90 w91 g hle hi ht => ?_) ?_
                ·
                  obtain ⟨-, hst, -⟩ := hle
                  refine StepOp_plain (op_fieldAddr ty25 rfl ty22 (by decide) (ht 9 rfl) (rfl : _ = (⟨_, 0, none⟩ : Addr)) ?_)
                  exact Goes.same hi rfl
                refine Dw_eq (Value.slice a_y37_sectors restart_1.sectors.length c_y37_sectors) (fun ρ93 w94 g hle hi ht => ?_) ?_
                ·
                  obtain ⟨-, hst, -⟩ := hle
                  have hsn := (Step.nx hi).1
                  refine StepOp_plain (op_load (cs := [(Value.slice a_y37_sectors restart_1.sectors.length c_y37_sectors), (Value.slice a_y37_pending restart_1.pending.length c_y37_pending), (Value.int .i64 restart_1.left), (Value.bool restart_1.stopped)]) (i := 0) ty22 hsn (ht 69 rfl) rfl rfl ?_)
                  exact Goes.same hi rfl
                refine Dw_eq (Value.int .i64 i_1) (fun ρ96 w97 g hle hi ht => ?_) ?_
                ·
                  obtain ⟨-, hst, -⟩ := hle
                  refine StepOp_plain (op_move (v := (Value.int .i64 i_1)) (ht 11 rfl) ?_)
                  exact Goes.same hi rfl
                replace hm := ck_some hm; obtain ⟨hc102, hm⟩ := hm
                refine Dw_op (VP O [(some b38, Obj.cells [(Value.slice a_y37_sectors restart_1.sectors.length c_y37_sectors), (Value.slice a_y37_pending restart_1.pending.length c_y37_pending), (Value.int .i64 restart_1.left), (Value.bool restart_1.stopped)].toArray 25), (some b1, Obj.cells [(Value.slice a_d_sectors d.sectors.length c_d_sectors), (Value.slice a_d_pending d.pending.length c_d_pending), (Value.int .i64 d.left), (Value.bool d.stopped)].toArray 25)] (rSl rU8) (restart_1.sectors.getD i_1.toNat default)) (VP.stab _ _) (fun ρ99 w100 g hle hi ht => ?_) ?_
                ·
                  obtain ⟨-, hst, -⟩ := hle
                  replace f_y37_sectors := f_y37_sectors.step hst
                  refine StepOp_plain (op_indexAddr (q := (rSl rU8)) ty22 ty41 (ht 70 rfl) (ht 71 rfl) f_y37_sectors rfl hc102.1 hc102.2 ?_)
                  intro p103 f104
                  exact Goes.same hi ⟨_, rfl, f104⟩
                refine Dw_op (VD O [(some b38, Obj.cells [(Value.slice a_y37_sectors restart_1.sectors.length c_y37_sectors), (Value.slice a_y37_pending restart_1.pending.length c_y37_pending), (Value.int .i64 restart_1.left), (Value.bool restart_1.stopped)].toArray 25), (some b1, Obj.cells [(Value.slice a_d_sectors d.sectors.length c_d_sectors), (Value.slice a_d_pending d.pending.length c_d_pending), (Value.int .i64 d.left), (Value.bool d.stopped)].toArray 25)] (vC (rSl rU8)) (restart_1.sectors.getD i_1.toNat default)) (VD.stab _ _) (fun ρ105 w106 g hle hi ht => ?_) ?_
                ·
                  obtain ⟨-, hst, -⟩ := hle
                  obtain ⟨p108, q109, f110⟩ := ht 72 rfl
                  refine StepOp_plain (op_loadP ty41 q109 f110 rfl ?_)
                  intro v111 h112
                  obtain ⟨a_y113, c_y113, rfl, f_y113⟩ := un_sl h112
                  exact Goes.same hi (show Vr.vd (vC (rSl rU8)) _ _ _ _ from (mkC (mk_sl f_y113)))
                refine Dw_eq (Value.string (bs (restart_1.sectors.getD i_1.toNat default))) (fun ρ114 w115 g hle hi ht => ?_) ?_
                ·
                  obtain ⟨-, hst, -⟩ := hle
                  have h117 : Vr.vd (vC (rSl rU8)) _ _ _ _ := ht 73 rfl
                  obtain ⟨a_y119, c_y119, q118, f_y119⟩ := un_sl h117
                  refine StepOp_plain (op_bytesToString ty41 Try.underlying5 Try.underlying9 q118 f_y119 ?_)
                  exact Goes.same hi rfl
                refine Dw_eq (Value.pointer (some ⟨b1, 0, none⟩)) (fun ρ120 w121 g hle hi ht => ?_) ?_
                ·
                  obtain ⟨-, hst, -⟩ := hle
                  refine StepOp_plain (op_fieldAddr ty25 rfl ty22 (by decide) (ht 4 rfl) (rfl : _ = (⟨_, 0, none⟩ : Addr)) ?_)
                  exact Goes.same hi rfl
                refine Dw_eq (Value.slice a_d_sectors d.sectors.length c_d_sectors) (fun ρ123 w124 g hle hi ht => ?_) ?_
                ·
                  obtain ⟨-, hst, -⟩ := hle
                  have hsn := (Step.nx hi).1
                  refine StepOp_plain (op_load (cs := [(Value.slice a_d_sectors d.sectors.length c_d_sectors), (Value.slice a_d_pending d.pending.length c_d_pending), (Value.int .i64 d.left), (Value.bool d.stopped)]) (i := 1) ty22 hsn (ht 75 rfl) rfl rfl ?_)
                  exact Goes.same hi rfl
                refine Dw_eq (Value.int .i64 i_1) (fun ρ126 w127 g hle hi ht => ?_) ?_
                ·
                  obtain ⟨-, hst, -⟩ := hle
                  refine StepOp_plain (op_move (v := (Value.int .i64 i_1)) (ht 11 rfl) ?_)
                  exact Goes.same hi rfl
                replace hm := ck_some hm; obtain ⟨hc132, hm⟩ := hm
                refine Dw_op (VP O [(some b38, Obj.cells [(Value.slice a_y37_sectors restart_1.sectors.length c_y37_sectors), (Value.slice a_y37_pending restart_1.pending.length c_y37_pending), (Value.int .i64 restart_1.left), (Value.bool restart_1.stopped)].toArray 25), (some b1, Obj.cells [(Value.slice a_d_sectors d.sectors.length c_d_sectors), (Value.slice a_d_pending d.pending.length c_d_pending), (Value.int .i64 d.left), (Value.bool d.stopped)].toArray 25)] (rSl rU8) (d.sectors.getD i_1.toNat default)) (VP.stab _ _) (fun ρ129 w130 g hle hi ht => ?_) ?_
                ·
                  obtain ⟨-, hst, -⟩ := hle
                  replace f_d_sectors := f_d_sectors.step hst
                  refine StepOp_plain (op_indexAddr (q := (rSl rU8)) ty22 ty41 (ht 76 rfl) (ht 77 rfl) f_d_sectors rfl hc132.1 hc132.2 ?_)
                  intro p133 f134
                  exact Goes.same hi ⟨_, rfl, f134⟩
                refine Dw_op (VD O [(some b38, Obj.cells [(Value.slice a_y37_sectors restart_1.sectors.length c_y37_sectors), (Value.slice a_y37_pending restart_1.pending.length c_y37_pending), (Value.int .i64 restart_1.left), (Value.bool restart_1.stopped)].toArray 25), (some b1, Obj.cells [(Value.slice a_d_sectors d.sectors.length c_d_sectors), (Value.slice a_d_pending d.pending.length c_d_pending), (Value.int .i64 d.left), (Value.bool d.stopped)].toArray 25)] (vC (rSl rU8)) (d.sectors.getD i_1.toNat default)) (VD.stab _ _) (fun ρ135 w136 g hle hi ht => ?_) ?_
                ·
                  obtain ⟨-, hst, -⟩ := hle
                  obtain ⟨p138, q139, f140⟩ := ht 78 rfl
                  refine StepOp_plain (op_loadP ty41 q139 f140 rfl ?_)
                  intro v141 h142
                  obtain ⟨a_y143, c_y143, rfl, f_y143⟩ := un_sl h142
                  exact Goes.same hi (show Vr.vd (vC (rSl rU8)) _ _ _ _ from (mkC (mk_sl f_y143)))
                refine Dw_eq (Value.string (bs (d.sectors.getD i_1.toNat default))) (fun ρ144 w145 g hle hi ht => ?_) ?_
                ·
                  obtain ⟨-, hst, -⟩ := hle
                  have h147 : Vr.vd (vC (rSl rU8)) _ _ _ _ := ht 79 rfl
                  obtain ⟨a_y149, c_y149, q148, f_y149⟩ := un_sl h147
                  refine StepOp_plain (op_bytesToString ty41 Try.underlying5 Try.underlying9 q148 f_y149 ?_)
                  exact Goes.same hi rfl
                refine Dw_eq (Value.bool (decide ((restart_1.sectors.getD i_1.toNat default) ≠ (d.sectors.getD i_1.toNat default)))) (fun ρ150 w151 g hle hi ht => ?_) ?_
                ·
                  obtain ⟨-, hst, -⟩ := hle
                  refine StepOp_plain (op_neqs (a := (restart_1.sectors.getD i_1.toNat default)) (b := (d.sectors.getD i_1.toNat default)) (ht 74 rfl) (ht 80 rfl) ?_)
                  exact Goes.same hi rfl
                refine Dw_nil fun w157 g158 hl159 hi160 => ?_
                obtain ⟨-, hst161, -⟩ := hl159
                obtain ⟨hs163, p162⟩ := Step.nx hi160
                rintro _ rfl
                rintro _ rfl
                rintro v164 h165
                replace h165 : Vr.vd (vC (rSl rU8)) _ _ _ _ := h165
                obtain ⟨a_y166, c_y166, rfl, f_y166⟩ := un_sl h165
                rintro _ ⟨p167, rfl, f168⟩
                rintro _ rfl
                rintro _ rfl
                rintro _ rfl
                rintro _ rfl
                rintro v169 h170
                replace h170 : Vr.vd (vC (rSl rU8)) _ _ _ _ := h170
                obtain ⟨a_y171, c_y171, rfl, f_y171⟩ := un_sl h170
                rintro _ ⟨p172, rfl, f173⟩
                rintro _ rfl
                rintro _ rfl
                rintro _ rfl
                have p174 : Step (ks [(some b38, Obj.cells [(Value.slice a_y37_sectors restart_1.sectors.length c_y37_sectors), (Value.slice a_y37_pending restart_1.pending.length c_y37_pending), (Value.int .i64 restart_1.left), (Value.bool restart_1.stopped)].toArray 25), (some b1, Obj.cells [(Value.slice a_d_sectors d.sectors.length c_d_sectors), (Value.slice a_d_pending d.pending.length c_d_pending), (Value.int .i64 d.left), (Value.bool d.stopped)].toArray 25)] O) w83 (ks [(some b38, Obj.cells [(Value.slice a_y37_sectors restart_1.sectors.length c_y37_sectors), (Value.slice a_y37_pending restart_1.pending.length c_y37_pending), (Value.int .i64 restart_1.left), (Value.bool restart_1.stopped)].toArray 25), (some b1, Obj.cells [(Value.slice a_d_sectors d.sectors.length c_d_sectors), (Value.slice a_d_pending d.pending.length c_d_pending), (Value.int .i64 d.left), (Value.bool d.stopped)].toArray 25)] O) w157 := hst161.trans p162
                replace f_y166 := f_y166.step p162
                replace f168 := f168.step p162
                replace f_y171 := f_y171.step p162
                replace f173 := f173.step p162
                replace f_d_sectors := f_d_sectors.step p174
                replace f_d_pending := f_d_pending.step p174
                replace f_b := f_b.step p174
                replace f_y37_sectors := f_y37_sectors.step p174
                replace f_y37_pending := f_y37_pending.step p174
                replace ch88 := ch88.trans p174
                clear p174 hs84
                refine Rg_nil ?_
                refine Wp_cond rfl (fun hc175 => ?_) (fun hc175 => ?_)
                ·
                  replace hm := bif_t hm hc175
                  refine Wp_seq ?_
                  clear f_b f_y166 f168 f_y171 f173
                  refine Wp_region ?_  -- 13 law.go:231
                  refine Rg_op rfl (op_assign (v := (Value.bool false)) rfl ?_)
                  refine Rg_nil ?_
                  refine Wp_ret ?_
                  have hz := step_all hs163
                  replace f_d_sectors := f_d_sectors.step hz
                  replace f_d_pending := f_d_pending.step hz
                  replace f_y37_sectors := f_y37_sectors.step hz
                  replace f_y37_pending := f_y37_pending.step hz
                  refine ⟨_, (show Closes [] _ _ from rfl), [(Value.bool false)], ⟨rfl, trivial⟩, hs163.ext, ?_⟩
                  exact Vr.eq (a := vB) (x := false) rfl (Option.some.inj hm)
                ·
                  replace hm := bif_f hm hc175
                  refine Wp_skip ?_
                  clear f_y166 f168 f_y171 f173
                  refine Wp_region ?_  -- 11 law.go:229
                  refine Rg_op rfl (op_move (v := (Value.int .i64 i_1)) rfl ?_)
                  refine Rg_op rfl (op_addw rfl rfl ?_)
                  refine Rg_op rfl (op_assign (v := (Value.int .i64 (IntKind.wrap .i64 (i_1 + 1)))) rfl ?_)
                  refine Rg_nil ?_
                  exact hK81 _ _ ⟨(IntKind.wrap .i64 (i_1 + 1)), _, rfl, ⟨(by repeat (first | with_reducible exact Out.refl _ _ | refine Out.upd ?_ rfl | refine Out.updL ?_ rfl | refine Out.mix' ?_ rfl | exact Out.refl _ _)), rfl, rfl, trivial⟩, ch88, hs163, (inK_wrap .i64 _), jnE1 hsf80 hm⟩
              ·
                replace hm := bif_f hm hc89
                refine Wp_exit ?_
                refine Wp_seq ?_
                obtain ⟨hs176, p177⟩ := hs84.sub (bs' := [(some b1, Obj.cells [(Value.slice a_d_sectors d.sectors.length c_d_sectors), (Value.slice a_d_pending d.pending.length c_d_pending), (Value.int .i64 d.left), (Value.bool d.stopped)].toArray 25)]) (.cons _ (.cons_cons _ List.Sublist.slnil))
                clear f_y37_sectors f_y37_pending
                replace f_d_sectors := f_d_sectors.step p177
                replace f_d_pending := f_d_pending.step p177
                replace f_b := f_b.step p177
                replace ch88 := ch88.trans p177
                clear p177 hs84
                refine Wp_region ?_  -- 14 law.go:234
                refine Rg_op rfl (op_fieldAddr ty25 rfl ty4 (by decide) rfl (rfl : _ = (⟨_, 3, none⟩ : Addr)) ?_)
                refine Rg_op_ (op_store (cs := [(Value.slice a_d_sectors d.sectors.length c_d_sectors), (Value.slice a_d_pending d.pending.length c_d_pending), (Value.int .i64 d.left), (Value.bool d.stopped)]) (vs := [(Value.bool true)]) (cs' := [(Value.slice a_d_sectors d.sectors.length c_d_sectors), (Value.slice a_d_pending d.pending.length c_d_pending), (Value.int .i64 d.left), (Value.bool true)]) (bs' := [(some b1, Obj.cells [(Value.slice a_d_sectors d.sectors.length c_d_sectors), (Value.slice a_d_pending d.pending.length c_d_pending), (Value.int .i64 d.left), (Value.bool true)].toArray 25)]) (i := 0) ty4 hs176 rfl rfl rfl rfl rfl (le_lit rfl) rfl rfl rfl ?_)
                intro w178 p179 hs180
                replace f_d_sectors := f_d_sectors.step p179
                replace f_d_pending := f_d_pending.step p179
                replace f_b := f_b.step p179
                replace ch88 := ch88.trans p179
                clear p179 hs176
                refine Rg_nil ?_
                refine Wp_seq ?_
                refine Wp_region ?_  -- 15 law.go:235
                refine Rg_op rfl (op_loadA (cs := [(Value.slice a_d_sectors d.sectors.length c_d_sectors), (Value.slice a_d_pending d.pending.length c_d_pending), (Value.int .i64 d.left), (Value.bool true)]) (vs := [(Value.slice a_d_sectors d.sectors.length c_d_sectors), (Value.slice a_d_pending d.pending.length c_d_pending), (Value.int .i64 d.left), (Value.bool true)]) (i := 0) ty25 hs180 rfl rfl rfl rfl ?_)
                refine Rg_op rfl (op_move (v := (Value.int .i64 at_)) rfl ?_)
                replace hm := bd hm; obtain ⟨read_1, hv181, hm⟩ := hm
                refine Rg_op rfl (op_call Try.call27 (c27_disk_Read (d := (⟨d.sectors, d.pending, d.left, true⟩ : XDisk)) (at_ := at_) hs180.ltw f_d_sectors f_d_pending r_d_left r_at_ hv181) rfl ?_)
                rintro v182 w183 ⟨hx184, h185⟩
                have hs186 := hs180.call hx184
                have p187 := Step.ext (O := ks [(some b1, Obj.cells [(Value.slice a_d_sectors d.sectors.length c_d_sectors), (Value.slice a_d_pending d.pending.length c_d_pending), (Value.int .i64 d.left), (Value.bool true)].toArray 25)] O) hx184
                clear hx184
                replace f_d_sectors := f_d_sectors.step p187
                replace f_d_pending := f_d_pending.step p187
                replace f_b := f_b.step p187
                replace ch88 := ch88.trans p187
                clear p187 hs180
                obtain ⟨v188, v189, rfl, h190, h191⟩ := h185
                obtain ⟨a_y192, c_y192, rfl, f_y192⟩ := un_sl h190
                obtain ⟨rfl, r_y193⟩ := h191
                refine Rg_op rfl (op_move (v := (Value.tuple [(Value.slice a_y192 read_1.1.length c_y192), (Value.int .i64 read_1.2)].toArray)) rfl ?_)
                refine Rg_op rfl (op_extract (v := (Value.slice a_y192 read_1.1.length c_y192)) rfl rfl ?_)
                refine Rg_op rfl (op_extract (v := (Value.int .i64 read_1.2)) rfl rfl ?_)
                refine Rg_op rfl (op_assign (v := (Value.slice a_y192 read_1.1.length c_y192)) rfl ?_)
                refine Rg_op rfl (op_assign (v := (Value.int .i64 read_1.2)) rfl ?_)
                refine Rg_nil ?_
                refine Wp_seq ?_
                clear f_y192
                refine Wp_region ?_  -- 16 law.go:236
                refine Rg_op rfl (op_loadA (cs := [(Value.slice a_d_sectors d.sectors.length c_d_sectors), (Value.slice a_d_pending d.pending.length c_d_pending), (Value.int .i64 d.left), (Value.bool true)]) (vs := [(Value.slice a_d_sectors d.sectors.length c_d_sectors), (Value.slice a_d_pending d.pending.length c_d_pending), (Value.int .i64 d.left), (Value.bool true)]) (i := 0) ty25 hs186 rfl rfl rfl rfl ?_)
                refine Rg_op rfl (op_move (v := (Value.int .i64 at_)) rfl ?_)
                refine Rg_op rfl (op_move (v := (Value.slice a_b b.length c_b)) rfl ?_)
                replace hm := bd hm; obtain ⟨write_1, hv194, hm⟩ := hm
                refine Rg_op rfl (op_call Try.call23 (c23_disk_Write (d := (⟨d.sectors, d.pending, d.left, true⟩ : XDisk)) (at_ := at_) (b := b) hs186.ltw f_d_sectors f_d_pending r_d_left r_at_ f_b hv194) rfl ?_)
                rintro v195 w196 ⟨hx197, h198⟩
                have hs199 := hs186.call hx197
                have p200 := Step.ext (O := ks [(some b1, Obj.cells [(Value.slice a_d_sectors d.sectors.length c_d_sectors), (Value.slice a_d_pending d.pending.length c_d_pending), (Value.int .i64 d.left), (Value.bool true)].toArray 25)] O) hx197
                clear hx197
                replace f_d_sectors := f_d_sectors.step p200
                replace f_d_pending := f_d_pending.step p200
                replace f_b := f_b.step p200
                replace ch88 := ch88.trans p200
                clear p200 hs186
                obtain ⟨v201, v202, rfl, h203, h204⟩ := h198
                obtain ⟨_, rfl, ⟨_, _, rfl, ⟨a_y205_sectors, c_y205_sectors, rfl, f_y205_sectors⟩, ⟨_, _, rfl, ⟨a_y205_pending, c_y205_pending, rfl, f_y205_pending⟩, ⟨_, _, rfl, ⟨rfl, r_y205_left⟩, rfl⟩⟩⟩⟩ := h203
                obtain ⟨rfl, r_y206⟩ := h204
                refine Rg_op rfl (op_move (v := (Value.tuple [(Value.agg [(Value.slice a_y205_sectors write_1.1.sectors.length c_y205_sectors), (Value.slice a_y205_pending write_1.1.pending.length c_y205_pending), (Value.int .i64 write_1.1.left), (Value.bool write_1.1.stopped)].toArray), (Value.int .i64 write_1.2)].toArray)) rfl ?_)
                refine Rg_op rfl (op_extract (v := (Value.agg [(Value.slice a_y205_sectors write_1.1.sectors.length c_y205_sectors), (Value.slice a_y205_pending write_1.1.pending.length c_y205_pending), (Value.int .i64 write_1.1.left), (Value.bool write_1.1.stopped)].toArray)) rfl rfl ?_)
                refine Rg_op rfl (op_extract (v := (Value.int .i64 write_1.2)) rfl rfl ?_)
                refine Rg_op rfl (op_alloc ty25 hs199 ?_)
                intro b207 w208 _ p209 hs210
                replace f_d_sectors := f_d_sectors.step p209
                replace f_d_pending := f_d_pending.step p209
                replace f_b := f_b.step p209
                replace f_y205_sectors := f_y205_sectors.step p209
                replace f_y205_pending := f_y205_pending.step p209
                replace ch88 := ch88.trans p209
                clear p209 hs199
                refine Rg_op_ (op_store (cs := [(Value.slice none 0 0), (Value.slice none 0 0), (Value.int .i64 0), (Value.bool false)]) (vs := [(Value.slice a_y205_sectors write_1.1.sectors.length c_y205_sectors), (Value.slice a_y205_pending write_1.1.pending.length c_y205_pending), (Value.int .i64 write_1.1.left), (Value.bool write_1.1.stopped)]) (cs' := [(Value.slice a_y205_sectors write_1.1.sectors.length c_y205_sectors), (Value.slice a_y205_pending write_1.1.pending.length c_y205_pending), (Value.int .i64 write_1.1.left), (Value.bool write_1.1.stopped)]) (bs' := [(some b207, Obj.cells [(Value.slice a_y205_sectors write_1.1.sectors.length c_y205_sectors), (Value.slice a_y205_pending write_1.1.pending.length c_y205_pending), (Value.int .i64 write_1.1.left), (Value.bool write_1.1.stopped)].toArray 25), (some b1, Obj.cells [(Value.slice a_d_sectors d.sectors.length c_d_sectors), (Value.slice a_d_pending d.pending.length c_d_pending), (Value.int .i64 d.left), (Value.bool true)].toArray 25)]) (i := 0) ty25 hs210 rfl rfl rfl rfl rfl (le_lit rfl) rfl rfl rfl ?_)
                intro w212 p213 hs214
                replace f_d_sectors := f_d_sectors.step p213
                replace f_d_pending := f_d_pending.step p213
                replace f_b := f_b.step p213
                replace f_y205_sectors := f_y205_sectors.step p213
                replace f_y205_pending := f_y205_pending.step p213
                replace ch88 := ch88.trans p213
                clear p213 hs210
                refine Rg_op rfl (op_assign (v := (Value.int .i64 write_1.2)) rfl ?_)
                refine Rg_nil ?_
                refine Wp_seq ?_
                obtain ⟨hs215, p216⟩ := hs214.sub (bs' := [(some b1, Obj.cells [(Value.slice a_d_sectors d.sectors.length c_d_sectors), (Value.slice a_d_pending d.pending.length c_d_pending), (Value.int .i64 d.left), (Value.bool true)].toArray 25)]) (.cons _ (.cons_cons _ List.Sublist.slnil))
                clear f_b f_y205_sectors f_y205_pending
                replace f_d_sectors := f_d_sectors.step p216
                replace f_d_pending := f_d_pending.step p216
                replace ch88 := ch88.trans p216
                clear p216 hs214
                refine Wp_region ?_  -- 17 law.go:237
                refine Rg_op rfl (op_loadA (cs := [(Value.slice a_d_sectors d.sectors.length c_d_sectors), (Value.slice a_d_pending d.pending.length c_d_pending), (Value.int .i64 d.left), (Value.bool true)]) (vs := [(Value.slice a_d_sectors d.sectors.length c_d_sectors), (Value.slice a_d_pending d.pending.length c_d_pending), (Value.int .i64 d.left), (Value.bool true)]) (i := 0) ty25 hs215 rfl rfl rfl rfl ?_)
                replace hm := bd hm; obtain ⟨sync_1, hv217, hm⟩ := hm
                refine Rg_op rfl (op_call Try.call25 (c25_disk_Sync (d := (⟨d.sectors, d.pending, d.left, true⟩ : XDisk)) hs215.ltw f_d_sectors f_d_pending r_d_left hv217) rfl ?_)
                rintro v218 w219 ⟨hx220, h221⟩
                have hs222 := hs215.call hx220
                have p223 := Step.ext (O := ks [(some b1, Obj.cells [(Value.slice a_d_sectors d.sectors.length c_d_sectors), (Value.slice a_d_pending d.pending.length c_d_pending), (Value.int .i64 d.left), (Value.bool true)].toArray 25)] O) hx220
                clear hx220
                replace f_d_sectors := f_d_sectors.step p223
                replace f_d_pending := f_d_pending.step p223
                replace ch88 := ch88.trans p223
                clear p223 hs215
                obtain ⟨v224, v225, rfl, h226, h227⟩ := h221
                obtain ⟨_, rfl, ⟨_, _, rfl, ⟨a_y228_sectors, c_y228_sectors, rfl, f_y228_sectors⟩, ⟨_, _, rfl, ⟨a_y228_pending, c_y228_pending, rfl, f_y228_pending⟩, ⟨_, _, rfl, ⟨rfl, r_y228_left⟩, rfl⟩⟩⟩⟩ := h226
                obtain ⟨rfl, r_y229⟩ := h227
                refine Rg_op rfl (op_move (v := (Value.tuple [(Value.agg [(Value.slice a_y228_sectors sync_1.1.sectors.length c_y228_sectors), (Value.slice a_y228_pending sync_1.1.pending.length c_y228_pending), (Value.int .i64 sync_1.1.left), (Value.bool sync_1.1.stopped)].toArray), (Value.int .i64 sync_1.2)].toArray)) rfl ?_)
                refine Rg_op rfl (op_extract (v := (Value.agg [(Value.slice a_y228_sectors sync_1.1.sectors.length c_y228_sectors), (Value.slice a_y228_pending sync_1.1.pending.length c_y228_pending), (Value.int .i64 sync_1.1.left), (Value.bool sync_1.1.stopped)].toArray)) rfl rfl ?_)
                refine Rg_op rfl (op_extract (v := (Value.int .i64 sync_1.2)) rfl rfl ?_)
                refine Rg_op rfl (op_alloc ty25 hs222 ?_)
                intro b230 w231 _ p232 hs233
                replace f_d_sectors := f_d_sectors.step p232
                replace f_d_pending := f_d_pending.step p232
                replace f_y228_sectors := f_y228_sectors.step p232
                replace f_y228_pending := f_y228_pending.step p232
                replace ch88 := ch88.trans p232
                clear p232 hs222
                refine Rg_op_ (op_store (cs := [(Value.slice none 0 0), (Value.slice none 0 0), (Value.int .i64 0), (Value.bool false)]) (vs := [(Value.slice a_y228_sectors sync_1.1.sectors.length c_y228_sectors), (Value.slice a_y228_pending sync_1.1.pending.length c_y228_pending), (Value.int .i64 sync_1.1.left), (Value.bool sync_1.1.stopped)]) (cs' := [(Value.slice a_y228_sectors sync_1.1.sectors.length c_y228_sectors), (Value.slice a_y228_pending sync_1.1.pending.length c_y228_pending), (Value.int .i64 sync_1.1.left), (Value.bool sync_1.1.stopped)]) (bs' := [(some b230, Obj.cells [(Value.slice a_y228_sectors sync_1.1.sectors.length c_y228_sectors), (Value.slice a_y228_pending sync_1.1.pending.length c_y228_pending), (Value.int .i64 sync_1.1.left), (Value.bool sync_1.1.stopped)].toArray 25), (some b1, Obj.cells [(Value.slice a_d_sectors d.sectors.length c_d_sectors), (Value.slice a_d_pending d.pending.length c_d_pending), (Value.int .i64 d.left), (Value.bool true)].toArray 25)]) (i := 0) ty25 hs233 rfl rfl rfl rfl rfl (le_lit rfl) rfl rfl rfl ?_)
                intro w235 p236 hs237
                replace f_d_sectors := f_d_sectors.step p236
                replace f_d_pending := f_d_pending.step p236
                replace f_y228_sectors := f_y228_sectors.step p236
                replace f_y228_pending := f_y228_pending.step p236
                replace ch88 := ch88.trans p236
                clear p236 hs233
                refine Rg_op rfl (op_assign (v := (Value.int .i64 sync_1.2)) rfl ?_)
                refine Rg_nil ?_
                refine Wp_seq ?_
                obtain ⟨hs238, p239⟩ := hs237.sub (bs' := [(some b1, Obj.cells [(Value.slice a_d_sectors d.sectors.length c_d_sectors), (Value.slice a_d_pending d.pending.length c_d_pending), (Value.int .i64 d.left), (Value.bool true)].toArray 25)]) (.cons _ (.cons_cons _ List.Sublist.slnil))
                clear f_y228_sectors f_y228_pending
                replace f_d_sectors := f_d_sectors.step p239
                replace f_d_pending := f_d_pending.step p239
                replace ch88 := ch88.trans p239
                clear p239 hs237
                refine Wp_reset [] [(2, (Value.int .i64 left)), (4, (Value.pointer (some ⟨b1, 0, none⟩))), (13, (Value.int .i64 read_1.2)), (15, (Value.int .i64 write_1.2)), (17, (Value.int .i64 sync_1.2))] rfl ⟨rfl, rfl, rfl, rfl, rfl, trivial⟩ fun ξ240 => ?_
                refine Wp_region ?_  -- 18 law.go:238
                refine Rg_op rfl (op_loadA (cs := [(Value.slice a_d_sectors d.sectors.length c_d_sectors), (Value.slice a_d_pending d.pending.length c_d_pending), (Value.int .i64 d.left), (Value.bool true)]) (vs := [(Value.slice a_d_sectors d.sectors.length c_d_sectors), (Value.slice a_d_pending d.pending.length c_d_pending), (Value.int .i64 d.left), (Value.bool true)]) (i := 0) ty25 hs238 rfl rfl rfl rfl ?_)
                refine Rg_op rfl (op_move (v := (Value.int .i64 left)) rfl ?_)
                replace hm := bd hm; obtain ⟨stop_1, hv241, hm⟩ := hm
                refine Rg_op rfl (op_call Try.call22 (c22_disk_Stop (d := (⟨d.sectors, d.pending, d.left, true⟩ : XDisk)) (left := left) hs238.ltw f_d_sectors f_d_pending r_d_left r_left hv241) rfl ?_)
                rintro v242 w243 ⟨hx244, h245⟩
                have hs246 := hs238.call hx244
                have p247 := Step.ext (O := ks [(some b1, Obj.cells [(Value.slice a_d_sectors d.sectors.length c_d_sectors), (Value.slice a_d_pending d.pending.length c_d_pending), (Value.int .i64 d.left), (Value.bool true)].toArray 25)] O) hx244
                clear hx244
                replace f_d_sectors := f_d_sectors.step p247
                replace f_d_pending := f_d_pending.step p247
                replace ch88 := ch88.trans p247
                clear p247 hs238
                obtain ⟨v248, v249, rfl, h250, h251⟩ := h245
                obtain ⟨_, rfl, ⟨_, _, rfl, ⟨a_y252_sectors, c_y252_sectors, rfl, f_y252_sectors⟩, ⟨_, _, rfl, ⟨a_y252_pending, c_y252_pending, rfl, f_y252_pending⟩, ⟨_, _, rfl, ⟨rfl, r_y252_left⟩, rfl⟩⟩⟩⟩ := h250
                obtain ⟨rfl, r_y253⟩ := h251
                refine Rg_op rfl (op_move (v := (Value.tuple [(Value.agg [(Value.slice a_y252_sectors stop_1.1.sectors.length c_y252_sectors), (Value.slice a_y252_pending stop_1.1.pending.length c_y252_pending), (Value.int .i64 stop_1.1.left), (Value.bool stop_1.1.stopped)].toArray), (Value.int .i64 stop_1.2)].toArray)) rfl ?_)
                refine Rg_op rfl (op_extract (v := (Value.agg [(Value.slice a_y252_sectors stop_1.1.sectors.length c_y252_sectors), (Value.slice a_y252_pending stop_1.1.pending.length c_y252_pending), (Value.int .i64 stop_1.1.left), (Value.bool stop_1.1.stopped)].toArray)) rfl rfl ?_)
                refine Rg_op rfl (op_extract (v := (Value.int .i64 stop_1.2)) rfl rfl ?_)
                refine Rg_op rfl (op_alloc ty25 hs246 ?_)
                intro b254 w255 _ p256 hs257
                replace f_d_sectors := f_d_sectors.step p256
                replace f_d_pending := f_d_pending.step p256
                replace f_y252_sectors := f_y252_sectors.step p256
                replace f_y252_pending := f_y252_pending.step p256
                replace ch88 := ch88.trans p256
                clear p256 hs246
                refine Rg_op_ (op_store (cs := [(Value.slice none 0 0), (Value.slice none 0 0), (Value.int .i64 0), (Value.bool false)]) (vs := [(Value.slice a_y252_sectors stop_1.1.sectors.length c_y252_sectors), (Value.slice a_y252_pending stop_1.1.pending.length c_y252_pending), (Value.int .i64 stop_1.1.left), (Value.bool stop_1.1.stopped)]) (cs' := [(Value.slice a_y252_sectors stop_1.1.sectors.length c_y252_sectors), (Value.slice a_y252_pending stop_1.1.pending.length c_y252_pending), (Value.int .i64 stop_1.1.left), (Value.bool stop_1.1.stopped)]) (bs' := [(some b254, Obj.cells [(Value.slice a_y252_sectors stop_1.1.sectors.length c_y252_sectors), (Value.slice a_y252_pending stop_1.1.pending.length c_y252_pending), (Value.int .i64 stop_1.1.left), (Value.bool stop_1.1.stopped)].toArray 25), (some b1, Obj.cells [(Value.slice a_d_sectors d.sectors.length c_d_sectors), (Value.slice a_d_pending d.pending.length c_d_pending), (Value.int .i64 d.left), (Value.bool true)].toArray 25)]) (i := 0) ty25 hs257 rfl rfl rfl rfl rfl (le_lit rfl) rfl rfl rfl ?_)
                intro w259 p260 hs261
                replace f_d_sectors := f_d_sectors.step p260
                replace f_d_pending := f_d_pending.step p260
                replace f_y252_sectors := f_y252_sectors.step p260
                replace f_y252_pending := f_y252_pending.step p260
                replace ch88 := ch88.trans p260
                clear p260 hs257
                refine Rg_op rfl (op_assign (v := (Value.int .i64 stop_1.2)) rfl ?_)
                refine Rg_nil ?_
                refine Wp_reset [] [(13, (Value.int .i64 read_1.2)), (15, (Value.int .i64 write_1.2)), (17, (Value.int .i64 sync_1.2)), (19, (Value.int .i64 stop_1.2))] rfl ⟨rfl, rfl, rfl, rfl, trivial⟩ fun ξ262 => ?_
                replace hm := jn_elim hm; obtain ⟨k264, hk265, hm⟩ := hm
                refine Wp_seqJ [8, 107, 108, 109, 110, 111, 112, 113, 114, 115, 116, 117, 118, 119, 120] (fun fr w' => ∃ (v_3 : Bool) (Ebs : Ents), Ebs = [(some b254, Obj.cells [(Value.slice a_y252_sectors stop_1.1.sectors.length c_y252_sectors), (Value.slice a_y252_pending stop_1.1.pending.length c_y252_pending), (Value.int .i64 stop_1.1.left), (Value.bool stop_1.1.stopped)].toArray 25), (some b1, Obj.cells [(Value.slice a_d_sectors d.sectors.length c_d_sectors), (Value.slice a_d_pending d.pending.length c_d_pending), (Value.int .i64 d.left), (Value.bool true)].toArray 25)] ∧ fr [] [(8, (Value.bool v_3))] ∧ Step (ks [(some b254, Obj.cells [(Value.slice a_y252_sectors stop_1.1.sectors.length c_y252_sectors), (Value.slice a_y252_pending stop_1.1.pending.length c_y252_pending), (Value.int .i64 stop_1.1.left), (Value.bool stop_1.1.stopped)].toArray 25), (some b1, Obj.cells [(Value.slice a_d_sectors d.sectors.length c_d_sectors), (Value.slice a_d_pending d.pending.length c_d_pending), (Value.int .i64 d.left), (Value.bool true)].toArray 25)] O) w259 (ks Ebs O) w' ∧ St ⟨w, [], []⟩ O w' Ebs ∧ k264 v_3 = some x) ?_ ?_
                ·
                  rintro ρ271 w267 ⟨v_3, Ebs, hEbs, hfr270, hst269, hs268, hm⟩
                  replace hm := jnE1 hk265 hm
                  subst hEbs; rw [hfr270.eq]; clear hfr270
                  replace f_d_sectors := f_d_sectors.step hst269
                  replace f_d_pending := f_d_pending.step hst269
                  replace f_y252_sectors := f_y252_sectors.step hst269
                  replace f_y252_pending := f_y252_pending.step hst269
                  replace ch88 := ch88.trans hst269
                  clear hst269 hs261
                  refine Wp_ret ?_
                  have hz := step_all hs268
                  replace f_d_sectors := f_d_sectors.step hz
                  replace f_d_pending := f_d_pending.step hz
                  replace f_y252_sectors := f_y252_sectors.step hz
                  replace f_y252_pending := f_y252_pending.step hz
                  refine ⟨_, (show Closes [] _ _ from rfl), [(Value.bool v_3)], ⟨rfl, trivial⟩, hs268.ext, ?_⟩
                  exact Vr.eq (a := vB) (x := v_3) rfl (Option.some.inj hm)
                ·
                  intro K266 hK266
                  have ch272 := Step.refl (ks [(some b254, Obj.cells [(Value.slice a_y252_sectors stop_1.1.sectors.length c_y252_sectors), (Value.slice a_y252_pending stop_1.1.pending.length c_y252_pending), (Value.int .i64 stop_1.1.left), (Value.bool stop_1.1.stopped)].toArray 25), (some b1, Obj.cells [(Value.slice a_d_sectors d.sectors.length c_d_sectors), (Value.slice a_d_pending d.pending.length c_d_pending), (Value.int .i64 d.left), (Value.bool true)].toArray 25)] O) w259
                  refine Wp_region ?_  -- 19 law.go:239
                  refine Rg_op rfl (op_move (v := (Value.int .i64 read_1.2)) rfl ?_)
                  refine Rg_op rfl (op_eql rfl rfl ?_)
                  refine Rg_op rfl (op_move (v := (Value.bool (decide (read_1.2 = 440)))) rfl ?_)
                  refine Rg_case (fun hg273 => ?_) (fun hg273 => ?_)
                  ·
                    replace hm := bif_t hm hg273
                    refine Rg_opg rfl rfl rfl (op_move (v := (Value.int .i64 write_1.2)) rfl ?_)
                    refine Rg_opg rfl rfl rfl (op_eql rfl rfl ?_)
                    refine Rg_op rfl (op_pick_t (v := (Value.bool (decide (write_1.2 = 440)))) rfl rfl ?_)
                    refine Rg_op rfl (op_move (v := (Value.bool (decide (write_1.2 = 440)))) rfl ?_)
                    refine Rg_case (fun hg274 => ?_) (fun hg274 => ?_)
                    ·
                      replace hm := bif_t hm hg274
                      refine Rg_opg rfl rfl rfl (op_move (v := (Value.int .i64 sync_1.2)) rfl ?_)
                      refine Rg_opg rfl rfl rfl (op_eql rfl rfl ?_)
                      refine Rg_op rfl (op_pick_t (v := (Value.bool (decide (sync_1.2 = 440)))) rfl rfl ?_)
                      refine Rg_op rfl (op_move (v := (Value.bool (decide (sync_1.2 = 440)))) rfl ?_)
                      refine Rg_case (fun hg275 => ?_) (fun hg275 => ?_)
                      ·
                        replace hm := bif_t hm hg275
                        refine Rg_opg rfl rfl rfl (op_move (v := (Value.int .i64 stop_1.2)) rfl ?_)
                        refine Rg_opg rfl rfl rfl (op_eql rfl rfl ?_)
                        refine Rg_op rfl (op_pick_t (v := (Value.bool (decide (stop_1.2 = 440)))) rfl rfl ?_)
                        refine Rg_op rfl (op_assign (v := (Value.bool (decide (stop_1.2 = 440)))) rfl ?_)
                        refine Rg_nil ?_
                        exact hK266 _ _ ⟨(decide (stop_1.2 = 440)), _, rfl, ⟨(by repeat (first | with_reducible exact Out.refl _ _ | refine Out.upd ?_ rfl | refine Out.updL ?_ rfl | refine Out.mix' ?_ rfl | exact Out.refl _ _)), rfl, rfl, trivial⟩, ch272, hs261, hm⟩
                      ·
                        replace hm := bif_f hm hg275
                        refine Rg_opx rfl (asB_ne rfl rfl) rfl ?_
                        refine Rg_opx rfl (asB_ne rfl rfl) rfl ?_
                        refine Rg_op rfl (op_pick_f (v := (Value.bool false)) rfl rfl ?_)
                        refine Rg_op rfl (op_assign (v := (Value.bool false)) rfl ?_)
                        refine Rg_nil ?_
                        exact hK266 _ _ ⟨false, _, rfl, ⟨(by repeat (first | with_reducible exact Out.refl _ _ | refine Out.upd ?_ rfl | refine Out.updL ?_ rfl | refine Out.mix' ?_ rfl | exact Out.refl _ _)), rfl, rfl, trivial⟩, ch272, hs261, hm⟩
                    ·
                      replace hm := bif_f hm hg274
                      refine Rg_opx rfl (asB_ne rfl rfl) rfl ?_
                      refine Rg_opx rfl (asB_ne rfl rfl) rfl ?_
                      refine Rg_op rfl (op_pick_f (v := (Value.bool false)) rfl rfl ?_)
                      refine Rg_op rfl (op_move (v := (Value.bool false)) rfl ?_)
                      refine Rg_opx rfl (asB_ne rfl rfl) rfl ?_
                      refine Rg_opx rfl (asB_ne rfl rfl) rfl ?_
                      refine Rg_op rfl (op_pick_f (v := (Value.bool false)) rfl rfl ?_)
                      refine Rg_op rfl (op_assign (v := (Value.bool false)) rfl ?_)
                      refine Rg_nil ?_
                      exact hK266 _ _ ⟨false, _, rfl, ⟨(by repeat (first | with_reducible exact Out.refl _ _ | refine Out.upd ?_ rfl | refine Out.updL ?_ rfl | refine Out.mix' ?_ rfl | exact Out.refl _ _)), rfl, rfl, trivial⟩, ch272, hs261, hm⟩
                  ·
                    replace hm := bif_f hm hg273
                    refine Rg_opx rfl (asB_ne rfl rfl) rfl ?_
                    refine Rg_opx rfl (asB_ne rfl rfl) rfl ?_
                    refine Rg_op rfl (op_pick_f (v := (Value.bool false)) rfl rfl ?_)
                    refine Rg_op rfl (op_move (v := (Value.bool false)) rfl ?_)
                    refine Rg_opx rfl (asB_ne rfl rfl) rfl ?_
                    refine Rg_opx rfl (asB_ne rfl rfl) rfl ?_
                    refine Rg_op rfl (op_pick_f (v := (Value.bool false)) rfl rfl ?_)
                    refine Rg_op rfl (op_move (v := (Value.bool false)) rfl ?_)
                    refine Rg_opx rfl (asB_ne rfl rfl) rfl ?_
                    refine Rg_opx rfl (asB_ne rfl rfl) rfl ?_
                    refine Rg_op rfl (op_pick_f (v := (Value.bool false)) rfl rfl ?_)
                    refine Rg_op rfl (op_assign (v := (Value.bool false)) rfl ?_)
                    refine Rg_nil ?_
                    exact hK266 _ _ ⟨false, _, rfl, ⟨(by repeat (first | with_reducible exact Out.refl _ _ | refine Out.upd ?_ rfl | refine Out.updL ?_ rfl | refine Out.mix' ?_ rfl | exact Out.refl _ _)), rfl, rfl, trivial⟩, ch272, hs261, hm⟩
        ·
          intro K66 hK66
          have ch276 := Step.refl (ks [(some b54, Obj.cells [(Value.slice a_y53_sectors restart_2.sectors.length c_y53_sectors), (Value.slice a_y53_pending restart_2.pending.length c_y53_pending), (Value.int .i64 restart_2.left), (Value.bool restart_2.stopped)].toArray 25), (some b38, Obj.cells [(Value.slice a_y37_sectors restart_1.sectors.length c_y37_sectors), (Value.slice a_y37_pending restart_1.pending.length c_y37_pending), (Value.int .i64 restart_1.left), (Value.bool restart_1.stopped)].toArray 25), (some b1, Obj.cells [(Value.slice a_d_sectors d.sectors.length c_d_sectors), (Value.slice a_d_pending d.pending.length c_d_pending), (Value.int .i64 d.left), (Value.bool d.stopped)].toArray 25)] O) w59
          refine Wp_region ?_  -- 7 law.go:226
          refine Rg_op rfl (op_fieldAddr ty25 rfl ty4 (by decide) rfl (rfl : _ = (⟨_, 3, none⟩ : Addr)) ?_)
          refine Rg_op rfl (op_load (cs := [(Value.slice a_y37_sectors restart_1.sectors.length c_y37_sectors), (Value.slice a_y37_pending restart_1.pending.length c_y37_pending), (Value.int .i64 restart_1.left), (Value.bool restart_1.stopped)]) (i := 1) ty4 hs61 rfl rfl rfl ?_)
          refine Rg_op rfl (op_move (v := (Value.bool restart_1.stopped)) rfl ?_)
          refine Rg_case (fun hg277 => ?_) (fun hg277 => ?_)
          ·
            replace hm := bif_t hm hg277
            refine Rg_opx rfl (asB_ne rfl rfl) rfl ?_
            refine Rg_opx rfl (asB_ne rfl rfl) rfl ?_
            refine Rg_opx rfl (asB_ne rfl rfl) rfl ?_
            refine Rg_op rfl (op_pick_t (v := (Value.bool true)) rfl rfl ?_)
            refine Rg_op rfl (op_move (v := (Value.bool true)) rfl ?_)
            refine Rg_opx rfl (asB_ne rfl rfl) rfl ?_
            refine Rg_opx rfl (asB_ne rfl rfl) rfl ?_
            refine Rg_opx rfl (asB_ne rfl rfl) rfl ?_
            refine Rg_opx rfl (asB_ne rfl rfl) rfl ?_
            refine Rg_op rfl (op_pick_t (v := (Value.bool true)) rfl rfl ?_)
            refine Rg_op rfl (op_move (v := (Value.bool true)) rfl ?_)
            refine Rg_opx rfl (asB_ne rfl rfl) rfl ?_
            refine Rg_opx rfl (asB_ne rfl rfl) rfl ?_
            refine Rg_opx rfl (asB_ne rfl rfl) rfl ?_
            refine Rg_opx rfl (asB_ne rfl rfl) rfl ?_
            refine Rg_op rfl (op_pick_t (v := (Value.bool true)) rfl rfl ?_)
            refine Rg_op rfl (op_move (v := (Value.bool true)) rfl ?_)
            refine Rg_opx rfl (asB_ne rfl rfl) rfl ?_
            refine Rg_opx rfl (asB_ne rfl rfl) rfl ?_
            refine Rg_opx rfl (asB_ne rfl rfl) rfl ?_
            refine Rg_opx rfl (asB_ne rfl rfl) rfl ?_
            refine Rg_opx rfl (asB_ne rfl rfl) rfl ?_
            refine Rg_opx rfl (asB_ne rfl rfl) rfl ?_
            refine Rg_opx rfl (asB_ne rfl rfl) rfl ?_
            refine Rg_op rfl (op_pick_t (v := (Value.bool true)) rfl rfl ?_)
            refine Rg_nil ?_
            exact hK66 _ _ ⟨true, _, rfl, ⟨(by repeat (first | with_reducible exact Out.refl _ _ | refine Out.upd ?_ rfl | refine Out.updL ?_ rfl | refine Out.mix' ?_ rfl | exact Out.refl _ _)), rfl, rfl, trivial⟩, ch276, hs61, hm⟩
          ·
            replace hm := bif_f hm hg277
            refine Rg_opg rfl rfl rfl (op_fieldAddr ty25 rfl ty3 (by decide) rfl (rfl : _ = (⟨_, 2, none⟩ : Addr)) ?_)
            refine Rg_opg rfl rfl rfl (op_load (cs := [(Value.slice a_y37_sectors restart_1.sectors.length c_y37_sectors), (Value.slice a_y37_pending restart_1.pending.length c_y37_pending), (Value.int .i64 restart_1.left), (Value.bool restart_1.stopped)]) (i := 1) ty3 hs61 rfl rfl rfl ?_)
            refine Rg_opg rfl rfl rfl (op_neq rfl rfl ?_)
            refine Rg_op rfl (op_pick_f (v := (Value.bool (decide (restart_1.left ≠ (-1))))) rfl rfl ?_)
            refine Rg_op rfl (op_move (v := (Value.bool (decide (restart_1.left ≠ (-1))))) rfl ?_)
            refine Rg_case (fun hg278 => ?_) (fun hg278 => ?_)
            ·
              replace hm := bif_t hm hg278
              refine Rg_opx rfl (asB_ne rfl rfl) rfl ?_
              refine Rg_opx rfl (asB_ne rfl rfl) rfl ?_
              refine Rg_opx rfl (asB_ne rfl rfl) rfl ?_
              refine Rg_opx rfl (asB_ne rfl rfl) rfl ?_
              refine Rg_op rfl (op_pick_t (v := (Value.bool true)) rfl rfl ?_)
              refine Rg_op rfl (op_move (v := (Value.bool true)) rfl ?_)
              refine Rg_opx rfl (asB_ne rfl rfl) rfl ?_
              refine Rg_opx rfl (asB_ne rfl rfl) rfl ?_
              refine Rg_opx rfl (asB_ne rfl rfl) rfl ?_
              refine Rg_opx rfl (asB_ne rfl rfl) rfl ?_
              refine Rg_op rfl (op_pick_t (v := (Value.bool true)) rfl rfl ?_)
              refine Rg_op rfl (op_move (v := (Value.bool true)) rfl ?_)
              refine Rg_opx rfl (asB_ne rfl rfl) rfl ?_
              refine Rg_opx rfl (asB_ne rfl rfl) rfl ?_
              refine Rg_opx rfl (asB_ne rfl rfl) rfl ?_
              refine Rg_opx rfl (asB_ne rfl rfl) rfl ?_
              refine Rg_opx rfl (asB_ne rfl rfl) rfl ?_
              refine Rg_opx rfl (asB_ne rfl rfl) rfl ?_
              refine Rg_opx rfl (asB_ne rfl rfl) rfl ?_
              refine Rg_op rfl (op_pick_t (v := (Value.bool true)) rfl rfl ?_)
              refine Rg_nil ?_
              exact hK66 _ _ ⟨true, _, rfl, ⟨(by repeat (first | with_reducible exact Out.refl _ _ | refine Out.upd ?_ rfl | refine Out.updL ?_ rfl | refine Out.mix' ?_ rfl | exact Out.refl _ _)), rfl, rfl, trivial⟩, ch276, hs61, hm⟩
            ·
              replace hm := bif_f hm hg278
              refine Rg_opg rfl rfl rfl (op_fieldAddr ty25 rfl ty23 (by decide) rfl (rfl : _ = (⟨_, 1, none⟩ : Addr)) ?_)
              refine Rg_opg rfl rfl rfl (op_load (cs := [(Value.slice a_y37_sectors restart_1.sectors.length c_y37_sectors), (Value.slice a_y37_pending restart_1.pending.length c_y37_pending), (Value.int .i64 restart_1.left), (Value.bool restart_1.stopped)]) (i := 1) ty23 hs61 rfl rfl rfl ?_)
              refine Rg_opg rfl rfl rfl (op_len Try.underlying23 rfl ?_)
              refine Rg_opg rfl rfl rfl (op_neq rfl rfl ?_)
              refine Rg_op rfl (op_pick_f (v := (Value.bool (decide ((restart_1.pending.length : Int) ≠ 0)))) rfl rfl ?_)
              refine Rg_op rfl (op_move (v := (Value.bool (decide ((restart_1.pending.length : Int) ≠ 0)))) rfl ?_)
              refine Rg_case (fun hg279 => ?_) (fun hg279 => ?_)
              ·
                replace hm := bif_t hm hg279
                refine Rg_opx rfl (asB_ne rfl rfl) rfl ?_
                refine Rg_opx rfl (asB_ne rfl rfl) rfl ?_
                refine Rg_opx rfl (asB_ne rfl rfl) rfl ?_
                refine Rg_opx rfl (asB_ne rfl rfl) rfl ?_
                refine Rg_op rfl (op_pick_t (v := (Value.bool true)) rfl rfl ?_)
                refine Rg_op rfl (op_move (v := (Value.bool true)) rfl ?_)
                refine Rg_opx rfl (asB_ne rfl rfl) rfl ?_
                refine Rg_opx rfl (asB_ne rfl rfl) rfl ?_
                refine Rg_opx rfl (asB_ne rfl rfl) rfl ?_
                refine Rg_opx rfl (asB_ne rfl rfl) rfl ?_
                refine Rg_opx rfl (asB_ne rfl rfl) rfl ?_
                refine Rg_opx rfl (asB_ne rfl rfl) rfl ?_
                refine Rg_opx rfl (asB_ne rfl rfl) rfl ?_
                refine Rg_op rfl (op_pick_t (v := (Value.bool true)) rfl rfl ?_)
                refine Rg_nil ?_
                exact hK66 _ _ ⟨true, _, rfl, ⟨(by repeat (first | with_reducible exact Out.refl _ _ | refine Out.upd ?_ rfl | refine Out.updL ?_ rfl | refine Out.mix' ?_ rfl | exact Out.refl _ _)), rfl, rfl, trivial⟩, ch276, hs61, hm⟩
              ·
                replace hm := bif_f hm hg279
                refine Rg_opg rfl rfl rfl (op_loadA (cs := [(Value.slice a_y37_sectors restart_1.sectors.length c_y37_sectors), (Value.slice a_y37_pending restart_1.pending.length c_y37_pending), (Value.int .i64 restart_1.left), (Value.bool restart_1.stopped)]) (vs := [(Value.slice a_y37_sectors restart_1.sectors.length c_y37_sectors), (Value.slice a_y37_pending restart_1.pending.length c_y37_pending), (Value.int .i64 restart_1.left), (Value.bool restart_1.stopped)]) (i := 1) ty25 hs61 rfl rfl rfl rfl ?_)
                refine Rg_opg rfl rfl rfl (op_loadA (cs := [(Value.slice a_y53_sectors restart_2.sectors.length c_y53_sectors), (Value.slice a_y53_pending restart_2.pending.length c_y53_pending), (Value.int .i64 restart_2.left), (Value.bool restart_2.stopped)]) (vs := [(Value.slice a_y53_sectors restart_2.sectors.length c_y53_sectors), (Value.slice a_y53_pending restart_2.pending.length c_y53_pending), (Value.int .i64 restart_2.left), (Value.bool restart_2.stopped)]) (i := 0) ty25 hs61 rfl rfl rfl rfl ?_)
                replace hm := bd hm; obtain ⟨same_1, hv280, hm⟩ := hm
                refine Rg_opg rfl rfl rfl (op_call Try.call17 (c17_overflightref44_Same (a := restart_1) (b := restart_2) hs61.ltw f_y37_sectors f_y37_pending r_y37_left f_y53_sectors f_y53_pending r_y53_left hv280) rfl ?_)
                rintro v281 w282 ⟨hx283, h284⟩
                have hs285 := hs61.call hx283
                have p286 := Step.ext (O := ks [(some b54, Obj.cells [(Value.slice a_y53_sectors restart_2.sectors.length c_y53_sectors), (Value.slice a_y53_pending restart_2.pending.length c_y53_pending), (Value.int .i64 restart_2.left), (Value.bool restart_2.stopped)].toArray 25), (some b38, Obj.cells [(Value.slice a_y37_sectors restart_1.sectors.length c_y37_sectors), (Value.slice a_y37_pending restart_1.pending.length c_y37_pending), (Value.int .i64 restart_1.left), (Value.bool restart_1.stopped)].toArray 25), (some b1, Obj.cells [(Value.slice a_d_sectors d.sectors.length c_d_sectors), (Value.slice a_d_pending d.pending.length c_d_pending), (Value.int .i64 d.left), (Value.bool d.stopped)].toArray 25)] O) hx283
                clear hx283
                replace f_d_sectors := f_d_sectors.step p286
                replace f_d_pending := f_d_pending.step p286
                replace f_b := f_b.step p286
                replace f_y37_sectors := f_y37_sectors.step p286
                replace f_y37_pending := f_y37_pending.step p286
                replace f_y53_sectors := f_y53_sectors.step p286
                replace f_y53_pending := f_y53_pending.step p286
                replace ch276 := ch276.trans p286
                clear p286 hs61
                obtain rfl := h284
                refine Rg_opg rfl rfl rfl (op_not rfl ?_)
                refine Rg_op rfl (op_pick_f (v := (Value.bool (!same_1))) rfl rfl ?_)
                refine Rg_op rfl (op_move (v := (Value.bool (!same_1))) rfl ?_)
                refine Rg_case (fun hg288 => ?_) (fun hg288 => ?_)
                ·
                  replace hm := bif_t hm hg288
                  refine Rg_opx rfl (asB_ne rfl rfl) rfl ?_
                  refine Rg_opx rfl (asB_ne rfl rfl) rfl ?_
                  refine Rg_opx rfl (asB_ne rfl rfl) rfl ?_
                  refine Rg_opx rfl (asB_ne rfl rfl) rfl ?_
                  refine Rg_opx rfl (asB_ne rfl rfl) rfl ?_
                  refine Rg_opx rfl (asB_ne rfl rfl) rfl ?_
                  refine Rg_opx rfl (asB_ne rfl rfl) rfl ?_
                  refine Rg_op rfl (op_pick_t (v := (Value.bool true)) rfl rfl ?_)
                  refine Rg_nil ?_
                  exact hK66 _ _ ⟨true, _, rfl, ⟨(by repeat (first | with_reducible exact Out.refl _ _ | refine Out.upd ?_ rfl | refine Out.updL ?_ rfl | refine Out.mix' ?_ rfl | exact Out.refl _ _)), rfl, rfl, trivial⟩, ch276, hs285, hm⟩
                ·
                  replace hm := bif_f hm hg288
                  refine Rg_opg rfl rfl rfl (op_fieldAddr ty25 rfl ty22 (by decide) rfl (rfl : _ = (⟨_, 0, none⟩ : Addr)) ?_)
                  refine Rg_opg rfl rfl rfl (op_load (cs := [(Value.slice a_y37_sectors restart_1.sectors.length c_y37_sectors), (Value.slice a_y37_pending restart_1.pending.length c_y37_pending), (Value.int .i64 restart_1.left), (Value.bool restart_1.stopped)]) (i := 1) ty22 hs285 rfl rfl rfl ?_)
                  refine Rg_opg rfl rfl rfl (op_len Try.underlying22 rfl ?_)
                  refine Rg_opg rfl rfl rfl (op_fieldAddr ty25 rfl ty22 (by decide) rfl (rfl : _ = (⟨_, 0, none⟩ : Addr)) ?_)
                  refine Rg_opg rfl rfl rfl (op_load (cs := [(Value.slice a_d_sectors d.sectors.length c_d_sectors), (Value.slice a_d_pending d.pending.length c_d_pending), (Value.int .i64 d.left), (Value.bool d.stopped)]) (i := 2) ty22 hs285 rfl rfl rfl ?_)
                  refine Rg_opg rfl rfl rfl (op_len Try.underlying22 rfl ?_)
                  refine Rg_opg rfl rfl rfl (op_neq rfl rfl ?_)
                  refine Rg_op rfl (op_pick_f (v := (Value.bool (decide ((restart_1.sectors.length : Int) ≠ (d.sectors.length : Int))))) rfl rfl ?_)
                  refine Rg_nil ?_
                  exact hK66 _ _ ⟨(decide ((restart_1.sectors.length : Int) ≠ (d.sectors.length : Int))), _, rfl, ⟨(by repeat (first | with_reducible exact Out.refl _ _ | refine Out.upd ?_ rfl | refine Out.updL ?_ rfl | refine Out.mix' ?_ rfl | exact Out.refl _ _)), rfl, rfl, trivial⟩, ch276, hs285, hm⟩
    ·
      intro K21 hK21
      have ch289 := Step.refl (ks [(some b1, Obj.cells [(Value.slice a_d_sectors d.sectors.length c_d_sectors), (Value.slice a_d_pending d.pending.length c_d_pending), (Value.int .i64 d.left), (Value.bool d.stopped)].toArray 25)] O) w8
      refine Wp_region ?_  -- 3 law.go:221
      refine Rg_op rfl (op_loadA (cs := [(Value.slice a_d_sectors d.sectors.length c_d_sectors), (Value.slice a_d_pending d.pending.length c_d_pending), (Value.int .i64 d.left), (Value.bool d.stopped)]) (vs := [(Value.slice a_d_sectors d.sectors.length c_d_sectors), (Value.slice a_d_pending d.pending.length c_d_pending), (Value.int .i64 d.left), (Value.bool d.stopped)]) (i := 0) ty25 hs11 rfl rfl rfl rfl ?_)
      replace hm := bd hm; obtain ⟨few_1, hv290, hm⟩ := hm
      refine Rg_op rfl (op_call Try.call14 (c14_overflightref44_Few (d := d) hs11.ltw f_d_sectors f_d_pending r_d_left hv290) rfl ?_)
      rintro v291 w292 ⟨hx293, h294⟩
      have hs295 := hs11.call hx293
      have p296 := Step.ext (O := ks [(some b1, Obj.cells [(Value.slice a_d_sectors d.sectors.length c_d_sectors), (Value.slice a_d_pending d.pending.length c_d_pending), (Value.int .i64 d.left), (Value.bool d.stopped)].toArray 25)] O) hx293
      clear hx293
      replace f_d_sectors := f_d_sectors.step p296
      replace f_d_pending := f_d_pending.step p296
      replace f_b := f_b.step p296
      replace ch289 := ch289.trans p296
      clear p296 hs11
      obtain rfl := h294
      refine Rg_op rfl (op_not rfl ?_)
      refine Rg_op rfl (op_move (v := (Value.bool (!few_1))) rfl ?_)
      refine Rg_case (fun hg298 => ?_) (fun hg298 => ?_)
      ·
        replace hm := bif_t hm hg298
        refine Rg_opx rfl (asB_ne rfl rfl) rfl ?_
        refine Rg_opx rfl (asB_ne rfl rfl) rfl ?_
        refine Rg_opx rfl (asB_ne rfl rfl) rfl ?_
        refine Rg_op rfl (op_pick_t (v := (Value.bool true)) rfl rfl ?_)
        refine Rg_nil ?_
        exact hK21 _ _ ⟨true, _, rfl, ⟨(by repeat (first | with_reducible exact Out.refl _ _ | refine Out.upd ?_ rfl | refine Out.updL ?_ rfl | refine Out.mix' ?_ rfl | exact Out.refl _ _)), rfl, rfl, trivial⟩, ch289, hs295, hm⟩
      ·
        replace hm := bif_f hm hg298
        refine Rg_opg rfl rfl rfl (op_move (v := (Value.slice a_b b.length c_b)) rfl ?_)
        refine Rg_opg rfl rfl rfl (op_len Try.underlying41 rfl ?_)
        refine Rg_opg rfl rfl rfl (op_gtr rfl rfl ?_)
        refine Rg_op rfl (op_pick_f (v := (Value.bool (decide (1000 < (b.length : Int))))) rfl rfl ?_)
        refine Rg_nil ?_
        exact hK21 _ _ ⟨(decide (1000 < (b.length : Int))), _, rfl, ⟨(by repeat (first | with_reducible exact Out.refl _ _ | refine Out.upd ?_ rfl | refine Out.updL ?_ rfl | refine Out.mix' ?_ rfl | exact Out.refl _ _)), rfl, rfl, trivial⟩, ch289, hs295, hm⟩

end Go.Fx


/- What the models of functions compute: loops over lists, checks, meetings. No program in sight. -/
set_option linter.unusedSimpArgs false
set_option linter.unusedVariables false
namespace Go.Fx
open Go Go.RowKit

section
variable {R α σ : Type}
@[simp] theorem jn_eq {κ : Type _} (k : κ) (f : κ → Option R) : jn k f = f k := rfl
theorem ck_eq {c : Prop} [Decidable c] {m : Option R} (h : c) : ck c m = m := if_pos h
@[simp] theorem ck_True {m : Option R} : ck True m = m := if_pos trivial
theorem wrapN {i : Nat} (h : i < 9223372036854775808) : IntKind.i64.wrap (i : Int) = (i : Int) := wrap_i64 (by omega) (by omega)
theorem wrapS {i : Nat} (h : i + 1 < 9223372036854775808) : IntKind.i64.wrap ((i : Int) + 1) = (i : Int) + 1 := wrap_i64 (by omega) (by omega)
theorem wrapA {i j : Nat} (h : i + j < 9223372036854775808) : IntKind.i64.wrap ((i : Int) + (j : Int)) = ((i + j : Nat) : Int) := (wrap_i64 (by omega) (by omega)).trans (by omega)
theorem wrapP {i : Nat} (h : i < 9223372036854775808) : IntKind.i64.wrap (((i + 1 : Nat) : Int) - 1) = (i : Int) := (wrap_i64 (by omega) (by omega)).trans (by omega)

/-- a loop that goes up an index over a list: L fuel index state -/
theorem up_list {L : Nat → Int → σ → Option R} (I : Nat → σ → Prop) (F : Nat → List α → σ → Option R) (l : List α) (hl : l.length < 9223372036854775807)
    (hE : ∀ n s, I l.length s → L (n + 1) (l.length : Nat) s = F l.length [] s)
    (hS : ∀ n (i : Nat) s x t, i < l.length → l[i]? = some x → IntKind.i64.wrap ((i : Int) + 1) = (i : Int) + 1 → I i s →
      (∀ s, I (i + 1) s → L n ((i : Int) + 1) s = F (i + 1) t s) → L (n + 1) (i : Int) s = F i (x :: t) s) :
    ∀ (fuel : Nat) s, l.length < fuel → I 0 s → L fuel 0 s = F 0 l s := by
  have main : ∀ (t : List α) (i fuel : Nat) s, l.drop i = t → i ≤ l.length → l.length - i < fuel → I i s → L fuel (i : Int) s = F i t s := by
    intro t
    induction t with
    | nil =>
      intro i fuel s hd hi hf hI
      have : i = l.length := by have := congrArg List.length hd; simp at this; omega
      subst this
      obtain ⟨n, rfl⟩ : ∃ n, fuel = n + 1 := ⟨fuel - 1, by omega⟩
      exact hE n s hI
    | cons x t ih =>
      intro i fuel s hd hi hf hI
      have hlt : i < l.length := by have := congrArg List.length hd; simp at this; omega
      obtain ⟨n, rfl⟩ : ∃ n, fuel = n + 1 := ⟨fuel - 1, by omega⟩
      have hx : l[i]? = some x := by rw [← List.head?_drop, hd]; rfl
      refine hS n i s x t hlt hx (wrapS (by omega)) hI fun s' hI' => (ih (i + 1) n s' ?_ (by omega) (by omega) hI')
      rw [← List.drop_drop, hd]; rfl
  intro fuel s hf hI
  exact main l 0 fuel s rfl (by omega) (by omega) hI

theorem getD_of {l : List α} {i : Nat} {x d : α} (h : l[i]? = some x) : l.getD i d = x := by simp [List.getD, h]

/-- a loop that goes up an index over a list, no state -/
theorem up_list0 {B : (Int → Option R) → Int → Option R} (F : List α → Option R) (l : List α) (hl : l.length < 9223372036854775807)
    (hE : ∀ sf, B sf (l.length : Nat) = F [])
    (hS : ∀ sf (i : Nat) x t, i < l.length → l[i]? = some x → IntKind.i64.wrap ((i : Int) + 1) = (i : Int) + 1 →
      sf ((i : Int) + 1) = F t → B sf (i : Int) = F (x :: t))
    {fuel : Nat} (hf : l.length < fuel) : loop1 B fuel 0 = F l := by
  refine up_list (L := fun n i (_ : Unit) => loop1 B n i) (fun _ _ => True) (fun _ t _ => F t) l hl ?_ ?_ fuel () hf trivial
  · intro n _ _; show loop1 B (n + 1) _ = _; rw [loop1_succ]; exact hE _
  · intro n i _ x t h1 h2 h3 _ ih; show loop1 B (n + 1) _ = _; rw [loop1_succ]; exact hS _ i x t h1 h2 h3 (ih () trivial)
/-- index first, then a state -/
theorem up_listA {B : (Int → σ → Option R) → Int → σ → Option R} (I : Nat → σ → Prop) (F : Nat → List α → σ → Option R) (l : List α) (hl : l.length < 9223372036854775807)
    (hE : ∀ sf s, I l.length s → B sf (l.length : Nat) s = F l.length [] s)
    (hS : ∀ sf (i : Nat) s x t, i < l.length → l[i]? = some x → IntKind.i64.wrap ((i : Int) + 1) = (i : Int) + 1 → I i s →
      (∀ s, I (i + 1) s → sf ((i : Int) + 1) s = F (i + 1) t s) → B sf (i : Int) s = F i (x :: t) s)
    {fuel : Nat} {s : σ} (hf : l.length < fuel) (hI : I 0 s) : loop2 B fuel 0 s = F 0 l s := by
  refine up_list (L := fun n i s => loop2 B n i s) I F l hl ?_ ?_ fuel s hf hI
  · intro n s h; show loop2 B (n + 1) _ _ = _; rw [loop2_succ]; exact hE _ _ h
  · intro n i s x t h1 h2 h3 h4 ih; show loop2 B (n + 1) _ _ = _; rw [loop2_succ]; exact hS _ i s x t h1 h2 h3 h4 ih
/-- a state first, then the index -/
theorem up_listB {B : (σ → Int → Option R) → σ → Int → Option R} (I : Nat → σ → Prop) (F : Nat → List α → σ → Option R) (l : List α) (hl : l.length < 9223372036854775807)
    (hE : ∀ sf s, I l.length s → B sf s (l.length : Nat) = F l.length [] s)
    (hS : ∀ sf (i : Nat) s x t, i < l.length → l[i]? = some x → IntKind.i64.wrap ((i : Int) + 1) = (i : Int) + 1 → I i s →
      (∀ s, I (i + 1) s → sf s ((i : Int) + 1) = F (i + 1) t s) → B sf s (i : Int) = F i (x :: t) s)
    {fuel : Nat} {s : σ} (hf : l.length < fuel) (hI : I 0 s) : loop2 B fuel s 0 = F 0 l s := by
  refine up_list (L := fun n i s => loop2 B n s i) I F l hl ?_ ?_ fuel s hf hI
  · intro n s h; show loop2 B (n + 1) _ _ = _; rw [loop2_succ]; exact hE _ _ h
  · intro n i s x t h1 h2 h3 h4 ih; show loop2 B (n + 1) _ _ = _; rw [loop2_succ]; exact hS _ i s x t h1 h2 h3 h4 ih

/-- the same, where the answer needs the index -/
theorem up_listI {B : (Int → Option R) → Int → Option R} (F : Nat → List α → Option R) (l : List α) (hl : l.length < 9223372036854775807)
    (hE : ∀ sf, B sf (l.length : Nat) = F l.length [])
    (hS : ∀ sf (i : Nat) x t, i < l.length → l[i]? = some x → IntKind.i64.wrap ((i : Int) + 1) = (i : Int) + 1 →
      sf ((i : Int) + 1) = F (i + 1) t → B sf (i : Int) = F i (x :: t))
    {fuel : Nat} (hf : l.length < fuel) : loop1 B fuel 0 = F 0 l := by
  refine up_list (L := fun n i (_ : Unit) => loop1 B n i) (fun _ _ => True) (fun i t _ => F i t) l hl ?_ ?_ fuel () hf trivial
  · intro n _ _; show loop1 B (n + 1) _ = _; rw [loop1_succ]; exact hE _
  · intro n i _ x t h1 h2 h3 _ ih; show loop1 B (n + 1) _ = _; rw [loop1_succ]; exact hS _ i x t h1 h2 h3 (ih () trivial)
end
end Go.Fx


set_option linter.unusedVariables false
set_option linter.unusedSimpArgs false
set_option maxRecDepth 100000
set_option maxHeartbeats 0
namespace Go.Fx
open Go Go.RowKit Go.Proofs
def m19_overflightref44_Check_B1 (d : XDisk) (sf41 : Int → Option Int) (i_2 : Int) : Option Int :=
  bif (decide (i_2 < (d.pending.length : Int))) then
    ck ((0 : Int) ≤ i_2 ∧ i_2 < (d.pending.length : Int)) <|
    jn (fun (v_2 : Bool) =>
      bif v_2 then
        some 440
      else
        sf41 (IntKind.wrap .i64 (i_2 + 1)))
    (fun k68 =>
      bif (decide (((d.pending.getD i_2.toNat default).at_) < 0)) then
        k68 true
      else
        bif (decide ((d.sectors.length : Int) ≤ ((d.pending.getD i_2.toNat default).at_))) then
          k68 true
        else
          k68 (decide ((((d.pending.getD i_2.toNat default).data).length : Int) ≠ 128)))
  else
    some 0

def m19_overflightref44_Check_B0 (d : XDisk) (sf21 : Int → Option Int) (i_1 : Int) : Option Int :=
  bif (decide (i_1 < (d.sectors.length : Int))) then
    ck ((0 : Int) ≤ i_1 ∧ i_1 < (d.sectors.length : Int)) <|
    bif (decide (((d.sectors.getD i_1.toNat default).length : Int) ≠ 128)) then
      some 440
    else
      sf21 (IntKind.wrap .i64 (i_1 + 1))
  else
    loop1 (m19_overflightref44_Check_B1 d) (((d.pending.length : Int) - 0).toNat + 1) 0

def m19_overflightref44_Check (d : XDisk) : Option Int :=
  jn (fun (v_1 : Bool) =>
    bif v_1 then
      some 440
    else
      loop1 (m19_overflightref44_Check_B0 d) (((d.sectors.length : Int) - 0).toNat + 1) 0)
  (fun k8 =>
    bif (decide ((d.sectors.length : Int) < 1)) then
      k8 true
    else
      bif (decide (4096 < (d.sectors.length : Int))) then
        k8 true
      else
        bif (decide (4096 < (d.pending.length : Int))) then
          k8 true
        else
          bif (decide (d.left < (-1))) then
            k8 true
          else
            k8 (decide (65536 < d.left)))

theorem c19_overflightref44_Check {w : World} {O : List Nat} {d : XDisk} {a_d_sectors : Option Addr} {c_d_sectors : Nat} {a_d_pending : Option Addr} {c_d_pending : Nat} (hO : ∀ k ∈ O, k < w.heap.size) (f_d_sectors : SlR (rSl rU8) w O a_d_sectors c_d_sectors d.sectors) (f_d_pending : SlR rXWrite w O a_d_pending c_d_pending d.pending) (r_d_left : InK .i64 d.left) {x : Int} (hm : m19_overflightref44_Check d = some x) :
    Ok Try.prog 19 [(Value.agg [(Value.slice a_d_sectors d.sectors.length c_d_sectors), (Value.slice a_d_pending d.pending.length c_d_pending), (Value.int .i64 d.left), (Value.bool d.stopped)].toArray)] w O (vI .i64) x := by
  unfold m19_overflightref44_Check at hm
  refine Fn_of_Wp (n := 71) (xs := [.tmp 2]) Try.func19 rfl Try.ntmps19 Try.results19 rfl ?_
  have hs := St.start hO
  refine Wp_seq ?_
  refine Wp_region ?_  -- 0 ref.go:7
  refine Rg_op rfl (op_box (cs := [(Value.slice a_d_sectors d.sectors.length c_d_sectors), (Value.slice a_d_pending d.pending.length c_d_pending), (Value.int .i64 d.left), (Value.bool d.stopped)]) hs rfl rfl ?_)
  intro b1 w2 _ p3 hs4
  replace f_d_sectors := f_d_sectors.step p3
  replace f_d_pending := f_d_pending.step p3
  clear p3
  refine Rg_op rfl (op_assign (v := (Value.int .i64 0)) rfl ?_)
  refine Rg_nil ?_
  refine Wp_seq ?_
  refine Wp_region ?_  -- 1 ref.go:8
  refine Rg_op rfl (op_fieldAddr ty25 rfl ty22 (by decide) rfl (rfl : _ = (⟨_, 0, none⟩ : Addr)) ?_)
  refine Rg_op rfl (op_load (cs := [(Value.slice a_d_sectors d.sectors.length c_d_sectors), (Value.slice a_d_pending d.pending.length c_d_pending), (Value.int .i64 d.left), (Value.bool d.stopped)]) (i := 0) ty22 hs4 rfl rfl rfl ?_)
  refine Rg_op rfl (op_len Try.underlying22 rfl ?_)
  refine Rg_op rfl (op_assign (v := (Value.int .i64 (d.sectors.length : Int))) rfl ?_)
  refine Rg_nil ?_
  refine Wp_seq ?_
  refine Wp_reset [] [(1, (Value.pointer (some ⟨b1, 0, none⟩))), (3, (Value.int .i64 (d.sectors.length : Int)))] rfl ⟨rfl, rfl, trivial⟩ fun ξ6 => ?_
  replace hm := jn_elim hm; obtain ⟨k8, hk9, hm⟩ := hm
  refine Wp_seqJ [10, 11, 12, 13, 14, 15, 16, 17, 18, 19, 20, 21, 22, 23, 24, 25, 26, 27, 28, 29, 30, 31] (fun fr w' => ∃ (v_1 : Bool) (Ebs : Ents), Ebs = [(some b1, Obj.cells [(Value.slice a_d_sectors d.sectors.length c_d_sectors), (Value.slice a_d_pending d.pending.length c_d_pending), (Value.int .i64 d.left), (Value.bool d.stopped)].toArray 25)] ∧ fr [] [(31, (Value.bool v_1))] ∧ Step (ks [(some b1, Obj.cells [(Value.slice a_d_sectors d.sectors.length c_d_sectors), (Value.slice a_d_pending d.pending.length c_d_pending), (Value.int .i64 d.left), (Value.bool d.stopped)].toArray 25)] O) w2 (ks Ebs O) w' ∧ St ⟨w, [], []⟩ O w' Ebs ∧ k8 v_1 = some x) ?_ ?_
  ·
    rintro ρ15 w11 ⟨v_1, Ebs, hEbs, hfr14, hst13, hs12, hm⟩
    replace hm := jnE1 hk9 hm
    subst hEbs; rw [hfr14.eq]; clear hfr14
    replace f_d_sectors := f_d_sectors.step hst13
    replace f_d_pending := f_d_pending.step hst13
    clear hst13 hs4
    refine Wp_cond rfl (fun hc16 => ?_) (fun hc16 => ?_)
    ·
      replace hm := bif_t hm hc16
      refine Wp_seq ?_
      obtain ⟨hs17, p18⟩ := hs12.sub (bs' := []) (.cons _ List.Sublist.slnil)
      clear f_d_sectors f_d_pending
      clear p18 hs12
      refine Wp_region ?_  -- 3 ref.go:10
      refine Rg_op rfl (op_assign (v := (Value.int .i64 440)) rfl ?_)
      refine Rg_nil ?_
      refine Wp_ret ?_
      have hz := step_all hs17
      refine ⟨_, (show Closes [] _ _ from rfl), [(Value.int .i64 440)], ⟨rfl, trivial⟩, hs17.ext, ?_⟩
      exact Vr.eq (a := (vI .i64)) (x := 440) ⟨rfl, (show InK .i64 440 from by decide)⟩ (Option.some.inj hm)
    ·
      replace hm := bif_f hm hc16
      refine Wp_skip ?_
      refine Wp_seq ?_
      refine Wp_seq ?_
      refine Wp_region ?_  -- 4 ref.go:12
      refine Rg_op rfl (op_assign (v := (Value.int .i64 0)) rfl ?_)
      refine Rg_nil ?_
      refine Wp_block ?_
      refine Wp_reset [] [(1, (Value.pointer (some ⟨b1, 0, none⟩))), (3, (Value.int .i64 (d.sectors.length : Int))), (4, (Value.int .i64 0))] rfl ⟨rfl, rfl, rfl, trivial⟩ fun ξ20 => ?_
      refine Wp_loopM [2, 4, 32, 33, 34, 35, 36, 37, 38, 39, 40, 41, 42, 43] (fun m fr w' => ∃ (i_1 : Int) (Ebs : Ents), Ebs = [(some b1, Obj.cells [(Value.slice a_d_sectors d.sectors.length c_d_sectors), (Value.slice a_d_pending d.pending.length c_d_pending), (Value.int .i64 d.left), (Value.bool d.stopped)].toArray 25)] ∧ fr [] [(4, (Value.int .i64 i_1))] ∧ Step (ks [(some b1, Obj.cells [(Value.slice a_d_sectors d.sectors.length c_d_sectors), (Value.slice a_d_pending d.pending.length c_d_pending), (Value.int .i64 d.left), (Value.bool d.stopped)].toArray 25)] O) w11 (ks Ebs O) w' ∧ St ⟨w, [], []⟩ O w' Ebs ∧ InK .i64 i_1 ∧ loop1 (m19_overflightref44_Check_B0 d) m i_1 = some x) (((d.sectors.length : Int) - 0).toNat + 1) ⟨0, _, rfl, ⟨Out.refl _ _, rfl, rfl, trivial⟩, Step.refl _ _, hs12, (show InK .i64 0 from by decide), hm⟩ ?_ ?_
      · rintro _ _ ⟨_, _, _, _, _, _, _, hm⟩; exact loop1_z hm
      · rintro m24 K23 hK23 ρ29 w25 ⟨i_1, Ebs, hEbs, hfr28, hst27, hs26, r_y19, hm⟩
        obtain ⟨sf21, hsf22, hm⟩ := loop1_s hm; unfold m19_overflightref44_Check_B0 at hm
        subst hEbs; rw [hfr28.eq]; clear hfr28
        replace f_d_sectors := f_d_sectors.step hst27
        replace f_d_pending := f_d_pending.step hst27
        have ch30 := hst27
        refine Wp_seq ?_
        refine Wp_seq ?_
        refine Wp_region ?_  -- 5 ref.go:12
        refine Rg_op rfl (op_move (v := (Value.int .i64 i_1)) rfl ?_)
        refine Rg_op rfl (op_move (v := (Value.int .i64 (d.sectors.length : Int))) rfl ?_)
        refine Rg_op rfl (op_lss rfl rfl ?_)
        refine Rg_nil ?_
        refine Wp_cond rfl (fun hc31 => ?_) (fun hc31 => ?_)
        ·
          replace hm := bif_t hm hc31
          refine Wp_skip ?_
          refine Wp_seq ?_
          refine Wp_block ?_
          refine Wp_seq ?_
          refine Wp_region ?_  -- 7 ref.go:13
          refine Rg_op rfl (op_fieldAddr ty25 rfl ty22 (by decide) rfl (rfl : _ = (⟨_, 0, none⟩ : Addr)) ?_)
          refine Rg_op rfl (op_load (cs := [(Value.slice a_d_sectors d.sectors.length c_d_sectors), (Value.slice a_d_pending d.pending.length c_d_pending), (Value.int .i64 d.left), (Value.bool d.stopped)]) (i := 0) ty22 hs26 rfl rfl rfl ?_)
          refine Rg_op rfl (op_move (v := (Value.int .i64 i_1)) rfl ?_)
          replace hm := ck_some hm; obtain ⟨hc32, hm⟩ := hm
          refine Rg_op rfl (op_indexAddr (q := (rSl rU8)) ty22 ty41 rfl rfl f_d_sectors rfl hc32.1 hc32.2 ?_)
          intro p33 f34
          refine Rg_op rfl (op_loadP ty41 rfl f34 rfl ?_)
          intro v35 h36
          obtain ⟨a_y37, c_y37, rfl, f_y37⟩ := un_sl h36
          refine Rg_op rfl (op_len Try.underlying41 rfl ?_)
          refine Rg_op rfl (op_neq rfl rfl ?_)
          refine Rg_nil ?_
          refine Wp_cond rfl (fun hc38 => ?_) (fun hc38 => ?_)
          ·
            replace hm := bif_t hm hc38
            refine Wp_seq ?_
            clear f34 f_y37
            refine Wp_region ?_  -- 8 ref.go:14
            refine Rg_op rfl (op_assign (v := (Value.int .i64 440)) rfl ?_)
            refine Rg_nil ?_
            refine Wp_ret ?_
            have hz := step_all hs26
            replace f_d_sectors := f_d_sectors.step hz
            replace f_d_pending := f_d_pending.step hz
            refine ⟨_, (show Closes [] _ _ from rfl), [(Value.int .i64 440)], ⟨rfl, trivial⟩, hs26.ext, ?_⟩
            exact Vr.eq (a := (vI .i64)) (x := 440) ⟨rfl, (show InK .i64 440 from by decide)⟩ (Option.some.inj hm)
          ·
            replace hm := bif_f hm hc38
            refine Wp_skip ?_
            clear f34 f_y37
            refine Wp_region ?_  -- 6 ref.go:12
            refine Rg_op rfl (op_move (v := (Value.int .i64 i_1)) rfl ?_)
            refine Rg_op rfl (op_addw rfl rfl ?_)
            refine Rg_op rfl (op_assign (v := (Value.int .i64 (IntKind.wrap .i64 (i_1 + 1)))) rfl ?_)
            refine Rg_nil ?_
            exact hK23 _ _ ⟨(IntKind.wrap .i64 (i_1 + 1)), _, rfl, ⟨(by repeat (first | with_reducible exact Out.refl _ _ | refine Out.upd ?_ rfl | refine Out.updL ?_ rfl | refine Out.mix' ?_ rfl | exact Out.refl _ _)), rfl, rfl, trivial⟩, ch30, hs26, (inK_wrap .i64 _), jnE1 hsf22 hm⟩
        ·
          replace hm := bif_f hm hc31
          refine Wp_exit ?_
          refine Wp_seq ?_
          refine Wp_seq ?_
          refine Wp_region ?_  -- 9 ref.go:17
          refine Rg_op rfl (op_assign (v := (Value.int .i64 0)) rfl ?_)
          refine Rg_nil ?_
          refine Wp_block ?_
          refine Wp_reset [] [(1, (Value.pointer (some ⟨b1, 0, none⟩))), (3, (Value.int .i64 (d.sectors.length : Int))), (5, (Value.int .i64 0))] rfl ⟨rfl, rfl, rfl, trivial⟩ fun ξ40 => ?_
          refine Wp_loopM [2, 5, 6, 44, 45, 46, 47, 48, 49, 50, 51, 52, 53, 54, 55, 56, 57, 58, 59, 60, 61, 62, 63, 64, 65, 66, 67, 68, 69, 70] (fun m fr w' => ∃ (i_2 : Int) (Ebs : Ents), Ebs = [(some b1, Obj.cells [(Value.slice a_d_sectors d.sectors.length c_d_sectors), (Value.slice a_d_pending d.pending.length c_d_pending), (Value.int .i64 d.left), (Value.bool d.stopped)].toArray 25)] ∧ fr [] [(5, (Value.int .i64 i_2))] ∧ Step (ks [(some b1, Obj.cells [(Value.slice a_d_sectors d.sectors.length c_d_sectors), (Value.slice a_d_pending d.pending.length c_d_pending), (Value.int .i64 d.left), (Value.bool d.stopped)].toArray 25)] O) w25 (ks Ebs O) w' ∧ St ⟨w, [], []⟩ O w' Ebs ∧ InK .i64 i_2 ∧ loop1 (m19_overflightref44_Check_B1 d) m i_2 = some x) (((d.pending.length : Int) - 0).toNat + 1) ⟨0, _, rfl, ⟨Out.refl _ _, rfl, rfl, trivial⟩, Step.refl _ _, hs26, (show InK .i64 0 from by decide), hm⟩ ?_ ?_
          · rintro _ _ ⟨_, _, _, _, _, _, _, hm⟩; exact loop1_z hm
          · rintro m44 K43 hK43 ρ49 w45 ⟨i_2, Ebs, hEbs, hfr48, hst47, hs46, r_y39, hm⟩
            obtain ⟨sf41, hsf42, hm⟩ := loop1_s hm; unfold m19_overflightref44_Check_B1 at hm
            subst hEbs; rw [hfr48.eq]; clear hfr48
            replace f_d_sectors := f_d_sectors.step hst47
            replace f_d_pending := f_d_pending.step hst47
            replace ch30 := ch30.trans hst47
            have ch50 := hst47
            refine Wp_seq ?_
            refine Wp_seq ?_
            refine Wp_region ?_  -- 10 ref.go:17
            refine Rg_op rfl (op_move (v := (Value.int .i64 i_2)) rfl ?_)
            refine Rg_op rfl (op_fieldAddr ty25 rfl ty23 (by decide) rfl (rfl : _ = (⟨_, 1, none⟩ : Addr)) ?_)
            refine Rg_op rfl (op_load (cs := [(Value.slice a_d_sectors d.sectors.length c_d_sectors), (Value.slice a_d_pending d.pending.length c_d_pending), (Value.int .i64 d.left), (Value.bool d.stopped)]) (i := 0) ty23 hs46 rfl rfl rfl ?_)
            refine Rg_op rfl (op_len Try.underlying23 rfl ?_)
            refine Rg_op rfl (op_lss rfl rfl ?_)
            refine Rg_nil ?_
            refine Wp_cond rfl (fun hc51 => ?_) (fun hc51 => ?_)
            ·
              replace hm := bif_t hm hc51
              refine Wp_skip ?_
              refine Wp_seq ?_
              refine Wp_block ?_
              refine Wp_seq ?_
              refine Wp_region ?_  -- 12 ref.go:18
              refine Rg_op rfl (op_fieldAddr ty25 rfl ty23 (by decide) rfl (rfl : _ = (⟨_, 1, none⟩ : Addr)) ?_)
              refine Rg_op rfl (op_load (cs := [(Value.slice a_d_sectors d.sectors.length c_d_sectors), (Value.slice a_d_pending d.pending.length c_d_pending), (Value.int .i64 d.left), (Value.bool d.stopped)]) (i := 0) ty23 hs46 rfl rfl rfl ?_)
              refine Rg_op rfl (op_move (v := (Value.int .i64 i_2)) rfl ?_)
              replace hm := ck_some hm; obtain ⟨hc52, hm⟩ := hm
              refine Rg_op rfl (op_indexAddr (q := rXWrite) ty23 ty73 rfl rfl f_d_pending rfl hc52.1 hc52.2 ?_)
              intro p53 f54
              refine Rg_op rfl (op_loadPA ty73 rfl f54 rfl ?_)
              intro vs55 h56
              obtain ⟨_, _, rfl, ⟨rfl, r_y57_at_⟩, ⟨a_y57_data, c_y57_data, rfl, f_y57_data⟩⟩ := h56
              refine Rg_op rfl (op_alloc ty73 hs46 ?_)
              intro b58 w59 _ p60 hs61
              replace f_d_sectors := f_d_sectors.step p60
              replace f_d_pending := f_d_pending.step p60
              replace f54 := f54.step p60
              replace f_y57_data := f_y57_data.step p60
              replace ch30 := ch30.trans p60
              replace ch50 := ch50.trans p60
              clear p60 hs46
              refine Rg_op_ (op_store (cs := [(Value.int .i64 0), (Value.slice none 0 0)]) (vs := [(Value.int .i64 ((d.pending.getD i_2.toNat default).at_)), (Value.slice a_y57_data ((d.pending.getD i_2.toNat default).data).length c_y57_data)]) (cs' := [(Value.int .i64 ((d.pending.getD i_2.toNat default).at_)), (Value.slice a_y57_data ((d.pending.getD i_2.toNat default).data).length c_y57_data)]) (bs' := [(some b58, Obj.cells [(Value.int .i64 ((d.pending.getD i_2.toNat default).at_)), (Value.slice a_y57_data ((d.pending.getD i_2.toNat default).data).length c_y57_data)].toArray 73), (some b1, Obj.cells [(Value.slice a_d_sectors d.sectors.length c_d_sectors), (Value.slice a_d_pending d.pending.length c_d_pending), (Value.int .i64 d.left), (Value.bool d.stopped)].toArray 25)]) (i := 0) ty73 hs61 rfl rfl rfl rfl rfl (le_lit rfl) rfl rfl rfl ?_)
              intro w63 p64 hs65
              replace f_d_sectors := f_d_sectors.step p64
              replace f_d_pending := f_d_pending.step p64
              replace f54 := f54.step p64
              replace f_y57_data := f_y57_data.step p64
              replace ch30 := ch30.trans p64
              replace ch50 := ch50.trans p64
              clear p64 hs61
              refine Rg_nil ?_
              refine Wp_reset2 [2, 5, 6, 44, 45, 46, 47, 48, 49, 50, 51, 52, 53, 54, 55, 56, 57, 58, 59, 60, 61, 62, 63, 64, 65, 66, 67, 68, 69, 70] [] (updL ⟨ξ40, []⟩ [(1, (Value.pointer (some ⟨b1, 0, none⟩))), (3, (Value.int .i64 (d.sectors.length : Int))), (5, (Value.int .i64 0))]) [(5, (Value.int .i64 i_2)), (6, (Value.pointer (some ⟨b58, 0, none⟩)))] (by repeat (first | with_reducible exact Out.refl _ _ | refine Out.upd ?_ rfl | refine Out.updL ?_ rfl | refine Out.mix' ?_ rfl | exact Out.refl _ _)) rfl ⟨rfl, rfl, trivial⟩ fun ξ66 => ?_
              replace hm := jn_elim hm; obtain ⟨k68, hk69, hm⟩ := hm
              refine Wp_seqJ [56, 57, 58, 59, 60, 61, 62, 63, 64, 65, 66, 67, 68, 69, 70] (fun fr w' => ∃ (v_2 : Bool) (Ebs : Ents), Ebs = [(some b58, Obj.cells [(Value.int .i64 ((d.pending.getD i_2.toNat default).at_)), (Value.slice a_y57_data ((d.pending.getD i_2.toNat default).data).length c_y57_data)].toArray 73), (some b1, Obj.cells [(Value.slice a_d_sectors d.sectors.length c_d_sectors), (Value.slice a_d_pending d.pending.length c_d_pending), (Value.int .i64 d.left), (Value.bool d.stopped)].toArray 25)] ∧ fr [] [(70, (Value.bool v_2))] ∧ Step (ks [(some b58, Obj.cells [(Value.int .i64 ((d.pending.getD i_2.toNat default).at_)), (Value.slice a_y57_data ((d.pending.getD i_2.toNat default).data).length c_y57_data)].toArray 73), (some b1, Obj.cells [(Value.slice a_d_sectors d.sectors.length c_d_sectors), (Value.slice a_d_pending d.pending.length c_d_pending), (Value.int .i64 d.left), (Value.bool d.stopped)].toArray 25)] O) w63 (ks Ebs O) w' ∧ St ⟨w, [], []⟩ O w' Ebs ∧ k68 v_2 = some x) ?_ ?_
              ·
                rintro ρ75 w71 ⟨v_2, Ebs, hEbs, hfr74, hst73, hs72, hm⟩
                replace hm := jnE1 hk69 hm
                subst hEbs; rw [hfr74.eq]; clear hfr74
                replace f_d_sectors := f_d_sectors.step hst73
                replace f_d_pending := f_d_pending.step hst73
                replace f54 := f54.step hst73
                replace f_y57_data := f_y57_data.step hst73
                replace ch30 := ch30.trans hst73
                replace ch50 := ch50.trans hst73
                clear hst73 hs65
                refine Wp_cond rfl (fun hc76 => ?_) (fun hc76 => ?_)
                ·
                  replace hm := bif_t hm hc76
                  refine Wp_seq ?_
                  clear f54
                  refine Wp_region ?_  -- 14 ref.go:20
                  refine Rg_op rfl (op_assign (v := (Value.int .i64 440)) rfl ?_)
                  refine Rg_nil ?_
                  refine Wp_ret ?_
                  have hz := step_all hs72
                  replace f_d_sectors := f_d_sectors.step hz
                  replace f_d_pending := f_d_pending.step hz
                  replace f_y57_data := f_y57_data.step hz
                  refine ⟨_, (show Closes [] _ _ from rfl), [(Value.int .i64 440)], ⟨rfl, trivial⟩, hs72.ext, ?_⟩
                  exact Vr.eq (a := (vI .i64)) (x := 440) ⟨rfl, (show InK .i64 440 from by decide)⟩ (Option.some.inj hm)
                ·
                  replace hm := bif_f hm hc76
                  refine Wp_skip ?_
                  clear f54
                  refine Wp_region ?_  -- 11 ref.go:17
                  refine Rg_op rfl (op_move (v := (Value.int .i64 i_2)) rfl ?_)
                  refine Rg_op rfl (op_addw rfl rfl ?_)
                  refine Rg_op rfl (op_assign (v := (Value.int .i64 (IntKind.wrap .i64 (i_2 + 1)))) rfl ?_)
                  refine Rg_nil ?_
                  have hs77 := hs72.drop 0
                  replace f_d_sectors := f_d_sectors.step (Step.drop _ _ [(some b58, Obj.cells [(Value.int .i64 ((d.pending.getD i_2.toNat default).at_)), (Value.slice a_y57_data ((d.pending.getD i_2.toNat default).data).length c_y57_data)].toArray 73), (some b1, Obj.cells [(Value.slice a_d_sectors d.sectors.length c_d_sectors), (Value.slice a_d_pending d.pending.length c_d_pending), (Value.int .i64 d.left), (Value.bool d.stopped)].toArray 25)] 0)
                  replace f_d_pending := f_d_pending.step (Step.drop _ _ [(some b58, Obj.cells [(Value.int .i64 ((d.pending.getD i_2.toNat default).at_)), (Value.slice a_y57_data ((d.pending.getD i_2.toNat default).data).length c_y57_data)].toArray 73), (some b1, Obj.cells [(Value.slice a_d_sectors d.sectors.length c_d_sectors), (Value.slice a_d_pending d.pending.length c_d_pending), (Value.int .i64 d.left), (Value.bool d.stopped)].toArray 25)] 0)
                  replace f_y57_data := f_y57_data.step (Step.drop _ _ [(some b58, Obj.cells [(Value.int .i64 ((d.pending.getD i_2.toNat default).at_)), (Value.slice a_y57_data ((d.pending.getD i_2.toNat default).data).length c_y57_data)].toArray 73), (some b1, Obj.cells [(Value.slice a_d_sectors d.sectors.length c_d_sectors), (Value.slice a_d_pending d.pending.length c_d_pending), (Value.int .i64 d.left), (Value.bool d.stopped)].toArray 25)] 0)
                  replace ch30 := ch30.trans (Step.drop _ _ [(some b58, Obj.cells [(Value.int .i64 ((d.pending.getD i_2.toNat default).at_)), (Value.slice a_y57_data ((d.pending.getD i_2.toNat default).data).length c_y57_data)].toArray 73), (some b1, Obj.cells [(Value.slice a_d_sectors d.sectors.length c_d_sectors), (Value.slice a_d_pending d.pending.length c_d_pending), (Value.int .i64 d.left), (Value.bool d.stopped)].toArray 25)] 0)
                  replace ch50 := ch50.trans (Step.drop _ _ [(some b58, Obj.cells [(Value.int .i64 ((d.pending.getD i_2.toNat default).at_)), (Value.slice a_y57_data ((d.pending.getD i_2.toNat default).data).length c_y57_data)].toArray 73), (some b1, Obj.cells [(Value.slice a_d_sectors d.sectors.length c_d_sectors), (Value.slice a_d_pending d.pending.length c_d_pending), (Value.int .i64 d.left), (Value.bool d.stopped)].toArray 25)] 0)
                  clear hs72
                  exact hK43 _ _ ⟨(IntKind.wrap .i64 (i_2 + 1)), _, rfl, ⟨(by repeat (first | with_reducible exact Out.refl _ _ | refine Out.upd ?_ rfl | refine Out.updL ?_ rfl | refine Out.mix' ?_ rfl | exact Out.refl _ _)), rfl, rfl, trivial⟩, ch50, hs77, (inK_wrap .i64 _), jnE1 hsf42 hm⟩
              ·
                intro K70 hK70
                have ch78 := Step.refl (ks [(some b58, Obj.cells [(Value.int .i64 ((d.pending.getD i_2.toNat default).at_)), (Value.slice a_y57_data ((d.pending.getD i_2.toNat default).data).length c_y57_data)].toArray 73), (some b1, Obj.cells [(Value.slice a_d_sectors d.sectors.length c_d_sectors), (Value.slice a_d_pending d.pending.length c_d_pending), (Value.int .i64 d.left), (Value.bool d.stopped)].toArray 25)] O) w63
                clear f54
                refine Wp_region ?_  -- 13 ref.go:19
                refine Rg_op rfl (op_fieldAddr ty73 rfl ty3 (by decide) rfl (rfl : _ = (⟨_, 0, none⟩ : Addr)) ?_)
                refine Rg_op rfl (op_load (cs := [(Value.int .i64 ((d.pending.getD i_2.toNat default).at_)), (Value.slice a_y57_data ((d.pending.getD i_2.toNat default).data).length c_y57_data)]) (i := 0) ty3 hs65 rfl rfl rfl ?_)
                refine Rg_op rfl (op_lss rfl rfl ?_)
                refine Rg_op rfl (op_move (v := (Value.bool (decide (((d.pending.getD i_2.toNat default).at_) < 0)))) rfl ?_)
                refine Rg_case (fun hg79 => ?_) (fun hg79 => ?_)
                ·
                  replace hm := bif_t hm hg79
                  refine Rg_opx rfl (asB_ne rfl rfl) rfl ?_
                  refine Rg_opx rfl (asB_ne rfl rfl) rfl ?_
                  refine Rg_opx rfl (asB_ne rfl rfl) rfl ?_
                  refine Rg_opx rfl (asB_ne rfl rfl) rfl ?_
                  refine Rg_op rfl (op_pick_t (v := (Value.bool true)) rfl rfl ?_)
                  refine Rg_op rfl (op_move (v := (Value.bool true)) rfl ?_)
                  refine Rg_opx rfl (asB_ne rfl rfl) rfl ?_
                  refine Rg_opx rfl (asB_ne rfl rfl) rfl ?_
                  refine Rg_opx rfl (asB_ne rfl rfl) rfl ?_
                  refine Rg_opx rfl (asB_ne rfl rfl) rfl ?_
                  refine Rg_op rfl (op_pick_t (v := (Value.bool true)) rfl rfl ?_)
                  refine Rg_nil ?_
                  exact hK70 _ _ ⟨true, _, rfl, ⟨(by repeat (first | with_reducible exact Out.refl _ _ | refine Out.upd ?_ rfl | refine Out.updL ?_ rfl | refine Out.mix' ?_ rfl | exact Out.refl _ _)), rfl, rfl, trivial⟩, ch78, hs65, hm⟩
                ·
                  replace hm := bif_f hm hg79
                  refine Rg_opg rfl rfl rfl (op_fieldAddr ty73 rfl ty3 (by decide) rfl (rfl : _ = (⟨_, 0, none⟩ : Addr)) ?_)
                  refine Rg_opg rfl rfl rfl (op_load (cs := [(Value.int .i64 ((d.pending.getD i_2.toNat default).at_)), (Value.slice a_y57_data ((d.pending.getD i_2.toNat default).data).length c_y57_data)]) (i := 0) ty3 hs65 rfl rfl rfl ?_)
                  refine Rg_opg rfl rfl rfl (op_move (v := (Value.int .i64 (d.sectors.length : Int))) rfl ?_)
                  refine Rg_opg rfl rfl rfl (op_geq rfl rfl ?_)
                  refine Rg_op rfl (op_pick_f (v := (Value.bool (decide ((d.sectors.length : Int) ≤ ((d.pending.getD i_2.toNat default).at_))))) rfl rfl ?_)
                  refine Rg_op rfl (op_move (v := (Value.bool (decide ((d.sectors.length : Int) ≤ ((d.pending.getD i_2.toNat default).at_))))) rfl ?_)
                  refine Rg_case (fun hg80 => ?_) (fun hg80 => ?_)
                  ·
                    replace hm := bif_t hm hg80
                    refine Rg_opx rfl (asB_ne rfl rfl) rfl ?_
                    refine Rg_opx rfl (asB_ne rfl rfl) rfl ?_
                    refine Rg_opx rfl (asB_ne rfl rfl) rfl ?_
                    refine Rg_opx rfl (asB_ne rfl rfl) rfl ?_
                    refine Rg_op rfl (op_pick_t (v := (Value.bool true)) rfl rfl ?_)
                    refine Rg_nil ?_
                    exact hK70 _ _ ⟨true, _, rfl, ⟨(by repeat (first | with_reducible exact Out.refl _ _ | refine Out.upd ?_ rfl | refine Out.updL ?_ rfl | refine Out.mix' ?_ rfl | exact Out.refl _ _)), rfl, rfl, trivial⟩, ch78, hs65, hm⟩
                  ·
                    replace hm := bif_f hm hg80
                    refine Rg_opg rfl rfl rfl (op_fieldAddr ty73 rfl ty41 (by decide) rfl (rfl : _ = (⟨_, 1, none⟩ : Addr)) ?_)
                    refine Rg_opg rfl rfl rfl (op_load (cs := [(Value.int .i64 ((d.pending.getD i_2.toNat default).at_)), (Value.slice a_y57_data ((d.pending.getD i_2.toNat default).data).length c_y57_data)]) (i := 0) ty41 hs65 rfl rfl rfl ?_)
                    refine Rg_opg rfl rfl rfl (op_len Try.underlying41 rfl ?_)
                    refine Rg_opg rfl rfl rfl (op_neq rfl rfl ?_)
                    refine Rg_op rfl (op_pick_f (v := (Value.bool (decide ((((d.pending.getD i_2.toNat default).data).length : Int) ≠ 128)))) rfl rfl ?_)
                    refine Rg_nil ?_
                    exact hK70 _ _ ⟨(decide ((((d.pending.getD i_2.toNat default).data).length : Int) ≠ 128)), _, rfl, ⟨(by repeat (first | with_reducible exact Out.refl _ _ | refine Out.upd ?_ rfl | refine Out.updL ?_ rfl | refine Out.mix' ?_ rfl | exact Out.refl _ _)), rfl, rfl, trivial⟩, ch78, hs65, hm⟩
            ·
              replace hm := bif_f hm hc51
              refine Wp_exit ?_
              refine Wp_seq ?_
              obtain ⟨hs81, p82⟩ := hs46.sub (bs' := []) (.cons _ List.Sublist.slnil)
              clear f_d_sectors f_d_pending
              replace ch30 := ch30.trans p82
              replace ch50 := ch50.trans p82
              clear p82 hs46
              refine Wp_region ?_  -- 15 ref.go:23
              refine Rg_op rfl (op_assign (v := (Value.int .i64 0)) rfl ?_)
              refine Rg_nil ?_
              refine Wp_ret ?_
              have hz := step_all hs81
              refine ⟨_, (show Closes [] _ _ from rfl), [(Value.int .i64 0)], ⟨rfl, trivial⟩, hs81.ext, ?_⟩
              exact Vr.eq (a := (vI .i64)) (x := 0) ⟨rfl, (show InK .i64 0 from by decide)⟩ (Option.some.inj hm)
  ·
    intro K10 hK10
    have ch83 := Step.refl (ks [(some b1, Obj.cells [(Value.slice a_d_sectors d.sectors.length c_d_sectors), (Value.slice a_d_pending d.pending.length c_d_pending), (Value.int .i64 d.left), (Value.bool d.stopped)].toArray 25)] O) w2
    refine Wp_region ?_  -- 2 ref.go:9
    refine Rg_op rfl (op_move (v := (Value.int .i64 (d.sectors.length : Int))) rfl ?_)
    refine Rg_op rfl (op_lss rfl rfl ?_)
    refine Rg_op rfl (op_move (v := (Value.bool (decide ((d.sectors.length : Int) < 1)))) rfl ?_)
    refine Rg_case (fun hg84 => ?_) (fun hg84 => ?_)
    ·
      replace hm := bif_t hm hg84
      refine Rg_opx rfl (asB_ne rfl rfl) rfl ?_
      refine Rg_opx rfl (asB_ne rfl rfl) rfl ?_
      refine Rg_op rfl (op_pick_t (v := (Value.bool true)) rfl rfl ?_)
      refine Rg_op rfl (op_move (v := (Value.bool true)) rfl ?_)
      refine Rg_opx rfl (asB_ne rfl rfl) rfl ?_
      refine Rg_opx rfl (asB_ne rfl rfl) rfl ?_
      refine Rg_opx rfl (asB_ne rfl rfl) rfl ?_
      refine Rg_opx rfl (asB_ne rfl rfl) rfl ?_
      refine Rg_op rfl (op_pick_t (v := (Value.bool true)) rfl rfl ?_)
      refine Rg_op rfl (op_move (v := (Value.bool true)) rfl ?_)
      refine Rg_opx rfl (asB_ne rfl rfl) rfl ?_
      refine Rg_opx rfl (asB_ne rfl rfl) rfl ?_
      refine Rg_opx rfl (asB_ne rfl rfl) rfl ?_
      refine Rg_op rfl (op_pick_t (v := (Value.bool true)) rfl rfl ?_)
      refine Rg_op rfl (op_move (v := (Value.bool true)) rfl ?_)
      refine Rg_opx rfl (asB_ne rfl rfl) rfl ?_
      refine Rg_opx rfl (asB_ne rfl rfl) rfl ?_
      refine Rg_opx rfl (asB_ne rfl rfl) rfl ?_
      refine Rg_op rfl (op_pick_t (v := (Value.bool true)) rfl rfl ?_)
      refine Rg_nil ?_
      exact hK10 _ _ ⟨true, _, rfl, ⟨(by repeat (first | with_reducible exact Out.refl _ _ | refine Out.upd ?_ rfl | refine Out.updL ?_ rfl | refine Out.mix' ?_ rfl | exact Out.refl _ _)), rfl, rfl, trivial⟩, ch83, hs4, hm⟩
    ·
      replace hm := bif_f hm hg84
      refine Rg_opg rfl rfl rfl (op_move (v := (Value.int .i64 (d.sectors.length : Int))) rfl ?_)
      refine Rg_opg rfl rfl rfl (op_gtr rfl rfl ?_)
      refine Rg_op rfl (op_pick_f (v := (Value.bool (decide (4096 < (d.sectors.length : Int))))) rfl rfl ?_)
      refine Rg_op rfl (op_move (v := (Value.bool (decide (4096 < (d.sectors.length : Int))))) rfl ?_)
      refine Rg_case (fun hg85 => ?_) (fun hg85 => ?_)
      ·
        replace hm := bif_t hm hg85
        refine Rg_opx rfl (asB_ne rfl rfl) rfl ?_
        refine Rg_opx rfl (asB_ne rfl rfl) rfl ?_
        refine Rg_opx rfl (asB_ne rfl rfl) rfl ?_
        refine Rg_opx rfl (asB_ne rfl rfl) rfl ?_
        refine Rg_op rfl (op_pick_t (v := (Value.bool true)) rfl rfl ?_)
        refine Rg_op rfl (op_move (v := (Value.bool true)) rfl ?_)
        refine Rg_opx rfl (asB_ne rfl rfl) rfl ?_
        refine Rg_opx rfl (asB_ne rfl rfl) rfl ?_
        refine Rg_opx rfl (asB_ne rfl rfl) rfl ?_
        refine Rg_op rfl (op_pick_t (v := (Value.bool true)) rfl rfl ?_)
        refine Rg_op rfl (op_move (v := (Value.bool true)) rfl ?_)
        refine Rg_opx rfl (asB_ne rfl rfl) rfl ?_
        refine Rg_opx rfl (asB_ne rfl rfl) rfl ?_
        refine Rg_opx rfl (asB_ne rfl rfl) rfl ?_
        refine Rg_op rfl (op_pick_t (v := (Value.bool true)) rfl rfl ?_)
        refine Rg_nil ?_
        exact hK10 _ _ ⟨true, _, rfl, ⟨(by repeat (first | with_reducible exact Out.refl _ _ | refine Out.upd ?_ rfl | refine Out.updL ?_ rfl | refine Out.mix' ?_ rfl | exact Out.refl _ _)), rfl, rfl, trivial⟩, ch83, hs4, hm⟩
      ·
        replace hm := bif_f hm hg85
        refine Rg_opg rfl rfl rfl (op_fieldAddr ty25 rfl ty23 (by decide) rfl (rfl : _ = (⟨_, 1, none⟩ : Addr)) ?_)
        refine Rg_opg rfl rfl rfl (op_load (cs := [(Value.slice a_d_sectors d.sectors.length c_d_sectors), (Value.slice a_d_pending d.pending.length c_d_pending), (Value.int .i64 d.left), (Value.bool d.stopped)]) (i := 0) ty23 hs4 rfl rfl rfl ?_)
        refine Rg_opg rfl rfl rfl (op_len Try.underlying23 rfl ?_)
        refine Rg_opg rfl rfl rfl (op_gtr rfl rfl ?_)
        refine Rg_op rfl (op_pick_f (v := (Value.bool (decide (4096 < (d.pending.length : Int))))) rfl rfl ?_)
        refine Rg_op rfl (op_move (v := (Value.bool (decide (4096 < (d.pending.length : Int))))) rfl ?_)
        refine Rg_case (fun hg86 => ?_) (fun hg86 => ?_)
        ·
          replace hm := bif_t hm hg86
          refine Rg_opx rfl (asB_ne rfl rfl) rfl ?_
          refine Rg_opx rfl (asB_ne rfl rfl) rfl ?_
          refine Rg_opx rfl (asB_ne rfl rfl) rfl ?_
          refine Rg_op rfl (op_pick_t (v := (Value.bool true)) rfl rfl ?_)
          refine Rg_op rfl (op_move (v := (Value.bool true)) rfl ?_)
          refine Rg_opx rfl (asB_ne rfl rfl) rfl ?_
          refine Rg_opx rfl (asB_ne rfl rfl) rfl ?_
          refine Rg_opx rfl (asB_ne rfl rfl) rfl ?_
          refine Rg_op rfl (op_pick_t (v := (Value.bool true)) rfl rfl ?_)
          refine Rg_nil ?_
          exact hK10 _ _ ⟨true, _, rfl, ⟨(by repeat (first | with_reducible exact Out.refl _ _ | refine Out.upd ?_ rfl | refine Out.updL ?_ rfl | refine Out.mix' ?_ rfl | exact Out.refl _ _)), rfl, rfl, trivial⟩, ch83, hs4, hm⟩
        ·
          replace hm := bif_f hm hg86
          refine Rg_opg rfl rfl rfl (op_fieldAddr ty25 rfl ty3 (by decide) rfl (rfl : _ = (⟨_, 2, none⟩ : Addr)) ?_)
          refine Rg_opg rfl rfl rfl (op_load (cs := [(Value.slice a_d_sectors d.sectors.length c_d_sectors), (Value.slice a_d_pending d.pending.length c_d_pending), (Value.int .i64 d.left), (Value.bool d.stopped)]) (i := 0) ty3 hs4 rfl rfl rfl ?_)
          refine Rg_opg rfl rfl rfl (op_lss rfl rfl ?_)
          refine Rg_op rfl (op_pick_f (v := (Value.bool (decide (d.left < (-1))))) rfl rfl ?_)
          refine Rg_op rfl (op_move (v := (Value.bool (decide (d.left < (-1))))) rfl ?_)
          refine Rg_case (fun hg87 => ?_) (fun hg87 => ?_)
          ·
            replace hm := bif_t hm hg87
            refine Rg_opx rfl (asB_ne rfl rfl) rfl ?_
            refine Rg_opx rfl (asB_ne rfl rfl) rfl ?_
            refine Rg_opx rfl (asB_ne rfl rfl) rfl ?_
            refine Rg_op rfl (op_pick_t (v := (Value.bool true)) rfl rfl ?_)
            refine Rg_nil ?_
            exact hK10 _ _ ⟨true, _, rfl, ⟨(by repeat (first | with_reducible exact Out.refl _ _ | refine Out.upd ?_ rfl | refine Out.updL ?_ rfl | refine Out.mix' ?_ rfl | exact Out.refl _ _)), rfl, rfl, trivial⟩, ch83, hs4, hm⟩
          ·
            replace hm := bif_f hm hg87
            refine Rg_opg rfl rfl rfl (op_fieldAddr ty25 rfl ty3 (by decide) rfl (rfl : _ = (⟨_, 2, none⟩ : Addr)) ?_)
            refine Rg_opg rfl rfl rfl (op_load (cs := [(Value.slice a_d_sectors d.sectors.length c_d_sectors), (Value.slice a_d_pending d.pending.length c_d_pending), (Value.int .i64 d.left), (Value.bool d.stopped)]) (i := 0) ty3 hs4 rfl rfl rfl ?_)
            refine Rg_opg rfl rfl rfl (op_gtr rfl rfl ?_)
            refine Rg_op rfl (op_pick_f (v := (Value.bool (decide (65536 < d.left)))) rfl rfl ?_)
            refine Rg_nil ?_
            exact hK10 _ _ ⟨(decide (65536 < d.left)), _, rfl, ⟨(by repeat (first | with_reducible exact Out.refl _ _ | refine Out.upd ?_ rfl | refine Out.updL ?_ rfl | refine Out.mix' ?_ rfl | exact Out.refl _ _)), rfl, rfl, trivial⟩, ch83, hs4, hm⟩

end Go.Fx


/- The plain laws of chapter 44. -/
set_option linter.unusedSimpArgs false
set_option linter.unusedVariables false
namespace Go.Fx
open Go Go.RowKit
theorem sane_eq : m13_overflightlaw44_sane = some true := by kernel_rfl

/-- the first index from i where g holds, or -1 -/
def fidx {α} (g : α → Bool) : Nat → List α → Int
  | _, [] => -1
  | i, x :: t => bif g x then (i : Int) else fidx g (i + 1) t
theorem fidx_any {α} (g : α → Bool) (l : List α) (i : Nat) : decide (0 ≤ fidx g i l) = l.any g := by
  induction l generalizing i with
  | nil => rfl
  | cons x t ih => cases h : g x <;> simp [fidx, h, ih]
theorem m44_eq (s : List XWrite) (f : XWrite → Option Bool) (g : XWrite → Bool) (hf : ∀ x, f x = some (g x)) (hl : s.length < 9223372036854775807) : m44_api_Write_ s f = some (s.any g) := by
  have : m65_api_Write_ s f = some (fidx g 0 s) := by
    unfold m65_api_Write_
    refine up_listI (fun i t => some (fidx g i t)) s hl ?_ ?_ (by omega)
    · intro sf; unfold m65_api_Write__B0; simp [fidx]
    · intro sf i x t h1 h2 h3 ih; unfold m65_api_Write__B0; obtain ⟨_, rfl⟩ := List.getElem?_eq_some_iff.1 h2; cases h : g s[i] <;> simp [h1, h3, ih, hf, h, fidx, ck_eq]
  unfold m44_api_Write_; rw [this]; simp [fidx_any]
theorem m45_eq (s : List (List UInt8)) (f : List UInt8 → Option Bool) (g : List UInt8 → Bool) (hf : ∀ x, f x = some (g x)) (hl : s.length < 9223372036854775807) : m45_slices_ContainsFuncbyte_byte_ s f = some (s.any g) := by
  have : m66_slices_IndexFuncbyte_byte_ s f = some (fidx g 0 s) := by
    unfold m66_slices_IndexFuncbyte_byte_
    refine up_listI (fun i t => some (fidx g i t)) s hl ?_ ?_ (by omega)
    · intro sf; unfold m66_slices_IndexFuncbyte_byte__B0; simp [fidx]
    · intro sf i x t h1 h2 h3 ih; unfold m66_slices_IndexFuncbyte_byte__B0; obtain ⟨_, rfl⟩ := List.getElem?_eq_some_iff.1 h2; cases h : g s[i] <;> simp [h1, h3, ih, hf, h, fidx, ck_eq]
  unfold m45_slices_ContainsFuncbyte_byte_; rw [this]; simp [fidx_any]

def secBad (b : List UInt8) : Bool := !decide (b.length = 128)
def wrBad (n : Nat) (w : XWrite) : Bool := decide (w.at_ < 0) || decide ((n : Int) ≤ w.at_) || !decide (w.data.length = 128)
/-- what Check answers -/
def chk (d : XDisk) : Bool := !(decide ((d.sectors.length : Int) < 1) || decide (4096 < (d.sectors.length : Int)) || decide (4096 < (d.pending.length : Int)) || decide (d.left < -1) || decide (65536 < d.left) || d.pending.any (wrBad d.sectors.length) || d.sectors.any secBad)
def lim : Nat := 140737488351232
structure Few' (d : XDisk) : Prop where
  s : d.sectors.length < 9223372036854775807
  p : d.pending.length < 9223372036854775807
theorem m18_eq (d : XDisk) (h : Few' d) : m18_disk_Check d = some (bif chk d then 0 else 440) := by
  unfold m18_disk_Check
  rw [m44_eq _ _ (wrBad d.sectors.length) _ h.p, m45_eq _ _ secBad _ h.s]
  · unfold chk
    simp only [jn_eq, Option.bind_some]
    cases decide ((d.sectors.length : Int) < 1) <;> cases decide (4096 < (d.sectors.length : Int)) <;> cases decide (4096 < (d.pending.length : Int)) <;> cases decide (d.left < -1) <;> cases decide (65536 < d.left) <;> cases d.pending.any (wrBad d.sectors.length) <;> cases d.sectors.any secBad <;> rfl
  · intro x; simp [m46_disk_Check_2, m43_disk_isSector, secBad]; omega
  · intro w; simp only [m42_disk_Check_1, m43_disk_isSector, wrBad]
    by_cases h1 : w.at_ < 0 <;> by_cases h2 : (d.sectors.length : Int) ≤ w.at_ <;> by_cases h3 : w.data.length = 128 <;> simp [h1, h2, h3] <;> omega
theorem m19_eq (d : XDisk) (h : Few' d) : m19_overflightref44_Check d = some (bif chk d then 0 else 440) := by
  unfold m19_overflightref44_Check
  have e1 : loop1 (m19_overflightref44_Check_B1 d) (((d.pending.length : Int) - 0).toNat + 1) 0 = some (bif d.pending.any (wrBad d.sectors.length) then 440 else 0) := by
    refine up_list0 (fun t => some (bif t.any (wrBad d.sectors.length) then 440 else 0)) d.pending h.p ?_ ?_ (by simp)
    · intro sf; simp [m19_overflightref44_Check_B1]
    · intro sf i x t h1 h2 h3 ih; obtain ⟨_, rfl⟩ := List.getElem?_eq_some_iff.1 h2
      unfold m19_overflightref44_Check_B1
      simp only [wrBad, List.any_cons]
      have k4 : ((d.pending[i].data.length : Int) = 128) = (d.pending[i].data.length = 128) := by apply propext; omega
      by_cases k1 : (d.pending[i]).at_ < 0 <;> by_cases k2 : (d.sectors.length : Int) ≤ (d.pending[i]).at_ <;> by_cases k3 : (d.pending[i]).data.length = 128 <;> simp [h1, h3, ih, k1, k2, k3, k4, ck_eq, wrBad]
  have e0 : loop1 (m19_overflightref44_Check_B0 d) (((d.sectors.length : Int) - 0).toNat + 1) 0 = some (bif d.sectors.any secBad then 440 else bif d.pending.any (wrBad d.sectors.length) then 440 else 0) := by
    refine up_list0 (fun t => some (bif t.any secBad then 440 else bif d.pending.any (wrBad d.sectors.length) then 440 else 0)) d.sectors h.s ?_ ?_ (by simp)
    · intro sf; unfold m19_overflightref44_Check_B0; rw [e1]; simp
    · intro sf i x t h1 h2 h3 ih; obtain ⟨_, rfl⟩ := List.getElem?_eq_some_iff.1 h2
      unfold m19_overflightref44_Check_B0
      rw [e1]
      have k4 : ((d.sectors[i].length : Int) = 128) = (d.sectors[i].length = 128) := by apply propext; omega
      by_cases k3 : (d.sectors[i]).length = 128 <;> simp [h1, h3, ih, k3, k4, ck_eq, secBad]
  rw [e0]
  unfold chk
  simp only [jn_eq, Option.bind_some]
  cases decide ((d.sectors.length : Int) < 1) <;> cases decide (4096 < (d.sectors.length : Int)) <;> cases decide (4096 < (d.pending.length : Int)) <;> cases decide (d.left < -1) <;> cases decide (65536 < d.left) <;> cases d.pending.any (wrBad d.sectors.length) <;> cases d.sectors.any secBad <;> rfl
theorem m17_refl (a : XDisk) (h : Few' a) : m17_overflightref44_Same a a = some true := by
  unfold m17_overflightref44_Same
  have e1 : loop1 (m17_overflightref44_Same_B1 a a) (((a.pending.length : Int) - 0).toNat + 1) 0 = some true := by
    refine up_list0 (fun t => some true) a.pending h.p ?_ ?_ (by simp)
    · intro sf; simp [m17_overflightref44_Same_B1]
    · intro sf i x t h1 h2 h3 ih; obtain ⟨_, rfl⟩ := List.getElem?_eq_some_iff.1 h2
      unfold m17_overflightref44_Same_B1
      simp [h1, h3, ih, ck_eq]
  have e0 : loop1 (m17_overflightref44_Same_B0 a a) (((a.sectors.length : Int) - 0).toNat + 1) 0 = some true := by
    refine up_list0 (fun t => some true) a.sectors h.s ?_ ?_ (by simp)
    · intro sf; unfold m17_overflightref44_Same_B0; rw [e1]; simp
    · intro sf i x t h1 h2 h3 ih; obtain ⟨_, rfl⟩ := List.getElem?_eq_some_iff.1 h2
      unfold m17_overflightref44_Same_B0
      simp [h1, h3, ih, ck_eq]
  rw [e0]; simp
theorem up_while {σ R : Type} {L : Nat → σ → Option R} (μ : σ → Nat) (I : σ → Prop) (T : σ → Option R)
    (hS : ∀ n s, I s → (∀ s', I s' → μ s' < μ s → L n s' = T s') → L (n + 1) s = T s) : ∀ fuel s, I s → μ s < fuel → L fuel s = T s := by
  intro fuel
  induction fuel with
  | zero => intro s _ h; omega
  | succ n ih => intro s hI hf; exact hS n s hI fun s' hI' hm => ih s' hI' (by omega)
theorem up_ex {σ R : Type} {L : Nat → σ → Option R} (μ : σ → Nat) (I : σ → Prop) (Q : Option R → Prop)
    (hS : ∀ n s, I s → (∀ s', I s' → μ s' < μ s → Q (L n s')) → Q (L (n + 1) s)) : ∀ fuel s, I s → μ s < fuel → Q (L fuel s) := by
  intro fuel
  induction fuel with
  | zero => intro s _ h; omega
  | succ n ih => intro s hI hf; exact hS n s hI fun s' hI' hm => ih s' hI' (by omega)
/-- the disk is small -/
theorem m14_tot (d : XDisk) (h1 : d.sectors.length ≤ 140737488351232) (h2 : ∀ s ∈ d.sectors, s.length ≤ 140737488351232) (h3 : d.pending.length ≤ 140737488351232) (h4 : ∀ w ∈ d.pending, w.data.length ≤ 140737488351232) : ∃ b, m14_overflightref44_Few d = some b := by
  have e1 : ∀ n : Int, 0 ≤ n → n ≤ 140737488361232 → ∃ b, loop2 (m14_overflightref44_Few_B1 d) 1000000 n 0 = some b := by
    intro n hn hm
    refine up_ex (σ := Int × Nat) (L := fun k s => loop2 (m14_overflightref44_Few_B1 d) k s.1 s.2) (fun s => (9001 - s.1).toNat) (fun s => 0 ≤ s.1 ∧ s.1 ≤ 140737488361232 ∧ s.2 ≤ d.pending.length) (fun r => ∃ b, r = some b) ?_ _ (n, 0) ⟨hn, hm, by simp⟩ (by show (9001 - n).toNat < _; omega)
    rintro k ⟨n, i⟩ ⟨hn, hm, hi⟩ ih
    simp only at hn hm hi ih ⊢
    rw [loop2_succ]
    generalize loop2 (m14_overflightref44_Few_B1 d) k = sf at ih ⊢
    unfold m14_overflightref44_Few_B1
    by_cases a1 : i < d.pending.length <;> by_cases a2 : n ≤ 9000
    · have hl := h4 d.pending[i] (List.getElem_mem a1)
      have w1 : IntKind.i64.wrap (n + 1) = n + 1 := wrap_i64 (by omega) (by omega)
      have w2 : IntKind.i64.wrap (n + 1 + (d.pending[i].data.length : Int)) = n + 1 + (d.pending[i].data.length : Int) := wrap_i64 (by omega) (by omega)
      have w3 : IntKind.i64.wrap ((i : Int) + 1) = ((i + 1 : Nat) : Int) := (wrapS (by omega)).trans (by omega)
      obtain ⟨b, hb⟩ := ih (n + 1 + (d.pending[i].data.length : Int), i + 1) (by simp only; omega) (by simp only; omega)
      refine ⟨b, ?_⟩
      have g : d.pending.getD (i : Int).toNat default = d.pending[i] := by simp [a1]
      have c : (i : Int) < (d.pending.length : Int) := by omega
      simp only [jn_eq, c, a2, decide_true, cond_true, g, w1, w2, w3]
      rw [ck_eq (by simp)]; exact hb
    · simp [a1, a2]
    · simp [a1, a2]
    · simp [a1, a2]
  refine up_ex (σ := Int × Nat) (L := fun k s => loop2 (m14_overflightref44_Few_B0 d) k s.1 s.2) (fun s => (9001 - s.1).toNat) (fun s => 0 ≤ s.1 ∧ s.1 ≤ 140737488361232 ∧ s.2 ≤ d.sectors.length) (fun r => ∃ b, r = some b) ?_ _ (0, 0) ⟨by simp, by simp, by simp⟩ (by decide)
  rintro k ⟨n, i⟩ ⟨hn, hm, hi⟩ ih
  simp only at hn hm hi ih ⊢
  rw [loop2_succ]
  generalize loop2 (m14_overflightref44_Few_B0 d) k = sf at ih ⊢
  obtain ⟨b1, hb1⟩ := e1 n hn hm
  unfold m14_overflightref44_Few_B0
  rw [hb1]
  by_cases a1 : i < d.sectors.length <;> by_cases a2 : n ≤ 9000
  · have hl := h2 d.sectors[i] (List.getElem_mem a1)
    have w1 : IntKind.i64.wrap (n + 1) = n + 1 := wrap_i64 (by omega) (by omega)
    have w2 : IntKind.i64.wrap (n + 1 + (d.sectors[i].length : Int)) = n + 1 + (d.sectors[i].length : Int) := wrap_i64 (by omega) (by omega)
    have w3 : IntKind.i64.wrap ((i : Int) + 1) = ((i + 1 : Nat) : Int) := (wrapS (by omega)).trans (by omega)
    obtain ⟨b, hb⟩ := ih (n + 1 + (d.sectors[i].length : Int), i + 1) (by simp only; omega) (by simp only; omega)
    refine ⟨b, ?_⟩
    have g : d.sectors.getD (i : Int).toNat default = d.sectors[i] := by simp [a1]
    have c : (i : Int) < (d.sectors.length : Int) := by omega
    simp only [jn_eq, c, a2, decide_true, cond_true, g, w1, w2, w3]
    rw [ck_eq (by simp)]; exact hb
  · simp [a1, a2]
  · simp [a1, a2]
  · simp [a1, a2]
theorem sm_few {d : XDisk} (h : smXDisk d) : Few' d := ⟨by have := h.1.1; omega, by have := h.2.1.1; omega⟩
theorem m47_eq (d : XDisk) (h : Few' d) : m47_disk_runs d = some (chk d && !d.stopped) := by
  unfold m47_disk_runs; rw [m18_eq d h]; cases chk d <;> simp
end Go.Fx


/- DiskStopped: the plain law. -/
set_option linter.unusedSimpArgs false
set_option linter.unusedVariables false
namespace Go.Fx
open Go Go.RowKit
theorem DiskStopped_law (d : XDisk) (at_ left : Int) (b : List UInt8) (hd : smXDisk d) (_ : InK .i64 at_) (_ : InK .i64 left) (_ : SmL SmT b) : m7_overflightlaw44_DiskStopped d at_ left b = some true := by
  obtain ⟨f, hb⟩ := m14_tot d hd.1.1 (fun s hs => (hd.1.2 s hs).1) hd.2.1.1 (fun w hw => (hd.2.1.2 w hw).2.1)
  have hf := sm_few hd
  have hs : Few' (⟨d.sectors, d.pending, d.left, true⟩ : XDisk) := ⟨hf.s, hf.p⟩
  have r0 : m47_disk_runs (⟨d.sectors, d.pending, d.left, true⟩ : XDisk) = some false := by rw [m47_eq _ hs]; simp
  have r1 : m27_disk_Read (⟨d.sectors, d.pending, d.left, true⟩ : XDisk) at_ = some ([], 440) := by unfold m27_disk_Read; rw [r0]; simp
  have r2 : m23_disk_Write (⟨d.sectors, d.pending, d.left, true⟩ : XDisk) at_ b = some (⟨[], [], 0, false⟩, 440) := by unfold m23_disk_Write; rw [r0]; simp
  have r3 : m25_disk_Sync (⟨d.sectors, d.pending, d.left, true⟩ : XDisk) = some (⟨[], [], 0, false⟩, 440) := by unfold m25_disk_Sync; rw [r0]; simp
  have r4 : m22_disk_Stop (⟨d.sectors, d.pending, d.left, true⟩ : XDisk) left = some (⟨[], [], 0, false⟩, 440) := by unfold m22_disk_Stop; rw [r0]; simp
  have lp : loop1 (m7_overflightlaw44_DiskStopped_B0 d at_ left b ⟨d.sectors, [], -1, false⟩) (((d.sectors.length : Int) - 0).toNat + 1) 0 = some true := by
    refine up_list0 (fun t => some true) d.sectors hf.s ?_ ?_ (by simp)
    · intro sf; unfold m7_overflightlaw44_DiskStopped_B0; rw [r1, r2, r3, r4]; simp
    · intro sf i x t h1 h2 h3 ih; obtain ⟨_, rfl⟩ := List.getElem?_eq_some_iff.1 h2
      unfold m7_overflightlaw44_DiskStopped_B0
      simp [h1, h3, ih, ck_eq]
  unfold m7_overflightlaw44_DiskStopped
  rw [sane_eq, hb]
  simp only [Option.bind_some, jn_eq, Bool.not_true, cond_false, m20_disk_Restart]
  rw [m17_refl ⟨d.sectors, [], -1, false⟩ ⟨hf.s, by simp⟩, lp]
  cases f <;> simp
end Go.Fx


namespace Go.Proofs.Ytegomkljijgjjaa.lawDiskStopped
open Go Go.Proofs Go.ChangeShapes Go.WideShapes Go.ChangeAt Go.RowKit Go.Fx
open Go.ChangeMaps (open_string shut_string)
set_option linter.unusedVariables false
set_option maxRecDepth 100000
theorem own : ownKnob Try.prog.godebug = none := by kernel_rfl
theorem laidOut : laidOutB Try.prog = true := by kernel_rfl
set_option maxRecDepth 100000 in
set_option maxHeartbeats 1000000 in
theorem lifted (os : Os) (started : os.Started) (H : Type) (enc : TypeId × Value → H) :
    ReturnsInHanded {} Try.checked os 7 .any (Rows.diskStoppedSpec.pre6 enc Try.prog Try.f7 Rows.diskStoppedRow.domain false) (Rows.diskStoppedSpec.post enc Try.prog Try.f7 false true false false) := by
  refine returnsInHanded_of_change_sized (C := Try.checked) own started (by kernel_rfl) Try.func7
    (ChangeSpec.witness6 (enc := enc) (C := Try.checked) false ⟨#[], #[.agg #[(.slice none 0 0), (.slice none 0 0), (.int .i64 0), (.bool false)], (.int .i64 0), (.int .i64 0), (.slice none 0 0)], []⟩ 8 (by kernel_rfl) (by kernel_rfl) (by kernel_rfl) (by kernel_rfl)) ?_
  intro W base args ds gs before hval0 hW hcnd hsz _
  have hval : ∀ (j : Nat) t v, Try.f7.params[j]? = some t → args[j]? = some v → Value.okWide Try.prog W .any base t v := hval0
  have hW' := hW
  obtain ⟨p, q, hA0, hV, rfl, hfz, hnd⟩ := hW
  have hA : DataW.TrodAll enc Try.prog W 0 (fun _ => true) true Try.f7.params.toList args.toList ds p := hA0
  rw [Try.params7] at hA hval
  obtain ⟨v0, vs0, d0, ds0, p0, q0, hargs, rfl, rfl, h0, r0⟩ := trodAll_cons hA
  obtain ⟨v1, vs1, d1, ds1, p1, q1, rfl, rfl, rfl, h1, r1⟩ := trodAll_cons r0
  obtain ⟨v2, vs2, d2, ds2, p2, q2, rfl, rfl, rfl, h2, r2⟩ := trodAll_cons r1
  obtain ⟨v3, vs3, d3, ds3, p3, q3, rfl, rfl, rfl, h3, r3⟩ := trodAll_cons r2
  obtain ⟨rfl, rfl, rfl⟩ := trodAll_nil r3
  obtain rfl : args = #[v0, v1, v2, v3] := by cases args; simp_all
  obtain ⟨rfl, rfl⟩ := trodVars_none hV
  have k0 := h0
  have lt0 : ∀ x ∈ p0, x.block < W.heap.size := by obtain ⟨m, hm⟩ := k0; exact DataW.trod_lt m _ _ _ hm
  obtain ⟨fu0, hf0⟩ := h0
  obtain ⟨d, rr0, sm0⟩ := rd25.2 _ _ _ hf0
  replace sm0 := sm0 (fun n hn => by have := List.all_eq_true.1 hsz n (DataW.weights_mem_each (j := 0) (t := 25) rfl rfl n hn); simpa using this)
  obtain ⟨⟨cs0⟩, rfl, _⟩ := okWide_struct Try.underlying25 (hval 0 25 v0 rfl rfl)
  replace rr0 : rXDisk.rd W [] cs0 d := rr0
  obtain ⟨_, _, rfl, ⟨a_d_sectors, c_d_sectors, rfl, f_d_sectors⟩, ⟨_, _, rfl, ⟨a_d_pending, c_d_pending, rfl, f_d_pending⟩, ⟨_, _, rfl, ⟨rfl, r_d_left⟩, rfl⟩⟩⟩ := rr0
  have k1 := h1
  have lt1 : ∀ x ∈ p1, x.block < W.heap.size := by obtain ⟨m, hm⟩ := k1; exact DataW.trod_lt m _ _ _ hm
  obtain ⟨fu1, hf1⟩ := h1
  obtain ⟨at_, rr1, sm1⟩ := rd3.2 _ _ _ hf1
  replace sm1 := sm1 (fun n hn => by have := List.all_eq_true.1 hsz n (DataW.weights_mem_each (j := 1) (t := 3) rfl rfl n hn); simpa using this)
  obtain ⟨n1, rfl⟩ := okWide_int Try.underlying3 (hval 1 3 v1 rfl rfl)
  replace rr1 : (rInt .i64).rd W [] [.int .i64 n1] at_ := rr1
  obtain ⟨e1, r_at_⟩ := un_int rr1
  obtain rfl : at_ = n1 := by simpa using e1.symm
  have k2 := h2
  have lt2 : ∀ x ∈ p2, x.block < W.heap.size := by obtain ⟨m, hm⟩ := k2; exact DataW.trod_lt m _ _ _ hm
  obtain ⟨fu2, hf2⟩ := h2
  obtain ⟨left, rr2, sm2⟩ := rd3.2 _ _ _ hf2
  replace sm2 := sm2 (fun n hn => by have := List.all_eq_true.1 hsz n (DataW.weights_mem_each (j := 2) (t := 3) rfl rfl n hn); simpa using this)
  obtain ⟨n2, rfl⟩ := okWide_int Try.underlying3 (hval 2 3 v2 rfl rfl)
  replace rr2 : (rInt .i64).rd W [] [.int .i64 n2] left := rr2
  obtain ⟨e2, r_left⟩ := un_int rr2
  obtain rfl : left = n2 := by simpa using e2.symm
  have k3 := h3
  have lt3 : ∀ x ∈ p3, x.block < W.heap.size := by obtain ⟨m, hm⟩ := k3; exact DataW.trod_lt m _ _ _ hm
  obtain ⟨fu3, hf3⟩ := h3
  obtain ⟨b, rr3, sm3⟩ := rd41.2 _ _ _ hf3
  replace sm3 := sm3 (fun n hn => by have := List.all_eq_true.1 hsz n (DataW.weights_mem_each (j := 3) (t := 41) rfl rfl n hn); simpa using this)
  obtain ⟨b3, l3, c3, rfl⟩ := okWide_slice Try.underlying41 (hval 3 41 v3 rfl rfl)
  replace rr3 : (rSl rU8).rd W [] [.slice b3 l3 c3] b := rr3
  obtain ⟨a_b, c_b, e3, f_b⟩ := un_sl rr3
  simp only [Value.slice.injEq] at e3
  obtain ⟨rfl, rfl, rfl⟩ := e3
  have hm : m7_overflightlaw44_DiskStopped d at_ left b = some true := DiskStopped_law _ _ _ _ sm0 sm1 sm2 sm3
  have hc := Fn.calls (c7_overflightlaw44_DiskStopped (d := d) (at_ := at_) (left := left) (b := b) (w := W) (O := []) (by simp) f_d_sectors f_d_pending r_d_left r_at_ r_left f_b hm)
  clear hA0 hval0
  refine Calls.mono hc ?_
  rintro e W' ⟨v, rfl, bel, hv⟩
  obtain rfl : v = .bool true := hv
  exact ⟨_, rfl, _, _, _, [], _, [], hW', trodAll_mk1 (shut_bool Try.underlying4 _), (trodAll_cons_mk (Below.trod laidOut (by kernel_rfl) (of_decide_eq_true (by kernel_rfl)) k0 bel lt0) (trodAll_cons_mk (Below.trod laidOut (by kernel_rfl) (of_decide_eq_true (by kernel_rfl)) k1 bel lt1) (trodAll_cons_mk (Below.trod laidOut (by kernel_rfl) (of_decide_eq_true (by kernel_rfl)) k2 bel lt2) (trodAll_cons_mk (Below.trod laidOut (by kernel_rfl) (of_decide_eq_true (by kernel_rfl)) k3 bel lt3) trodAll_mk0)))), rfl, bel.frame _, fun h => by cases h⟩
theorem over : Rows.diskStoppedRow.holds Try.pinned (OpenSpec.ofChange Rows.diskStoppedSpec) :=
  OpenClaim.holds_of_wide 7 Try.f7 rfl rfl rfl rfl rfl rfl rfl ⟨rfl, rfl, rfl, rfl, rfl⟩ rfl rfl rfl rfl rfl (by kernel_rfl) Try.func7 (by kernel_rfl)
    (of_decide_eq_true (by kernel_rfl)) (by unfold Func.isWrapper; first | (rw [if_pos (by decide +kernel)]; kernel_rfl) | (rw [if_neg (by decide +kernel)]; exact ⟨rfl, rfl⟩))
    (fun os started H enc _ => lifted os started H enc)
theorem proved : Rows.DiskStoppedSaid := over
end Go.Proofs.Ytegomkljijgjjaa.lawDiskStopped

